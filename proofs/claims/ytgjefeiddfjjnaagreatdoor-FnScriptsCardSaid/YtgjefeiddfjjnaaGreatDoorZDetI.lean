/- Determinants: the program's functions. -/
import Derived.Test.YtgjefeiddfjjnaaGreatDoorZRedP
set_option maxHeartbeats 8000000
set_option maxRecDepth 100000
namespace Go.Proofs.YtgjefeiddfjjnaaGreatDoor
open Go.RowKit
open Lib (hid)
open Go.Value renaming int->Yv
open Go.IntKind renaming i64->Yi
open Blk renaming new->JP
open Bool renaming and_eq_false_iff->Ox,and_eq_true->JQ
open Classical renaming byContradiction->LV
open Grow renaming refl->JH
open List renaming getD_eq_getElem?_getD->Kr,getElem?_eq_getElem->JR,length_map->KK,replicate->Ko
open Nat renaming add_mul->Ki,mul_le_mul->JL,zero_le->JI
open Option renaming bind_some->Kb
open Option.some renaming inj->JJ
open Go.Proofs.Tryz renaming func143->Qs,func235->Qq,ntmps143->Qu,ntmps235->Qr,prog->JG
open Go.Proofs.Tryz
variable {S:Nat->Prop} {k n:Nat} {m:Mat} {v:Value} {w:World}
theorem ZfG {m:List Int} {C p q i:Nat}: ∀ {j:Nat} {l:List Int},(ZI m C p q i j l).length<=l.length+j
 |0,l=>Nat.le_refl _
 |j+1,l=>by
  simp only[ZI];split
  ·rw[List.length_append];have:=ZfG (m:=m) (C:=C) (p:=p) (q:=q) (i:=i) (j:=j) (l:=l);simp;omega
  ·have:=ZfG (m:=m) (C:=C) (p:=p) (q:=q) (i:=i) (j:=j) (l:=l);omega
theorem Zis {m:List Int} {C p q:Nat}: ∀ {i:Nat},(Zt m C p q i).length<=i*C
 |0=>JI _
 |i+1=>by simp only[Zt];have h1:=Zis (m:=m) (C:=C) (p:=p) (q:=q) (i:=i);have h2:=ZfG (m:=m) (C:=C) (p:=p) (q:=q) (i:=i) (j:=C) (l:=Zt m C p q i);rw[Ki];omega
theorem Zm5 (a:Option Addr) (n cp R C p q:Nat) (m:List Int) (w:World) (h:RdI w S a n cp m) (hl:m.length=R*C) (hR:R<=24) (hC:C<=24) (hR1:1<=R) (hC1:1<=C) (hm:NumL m) (_hp:p<=24) (hq:q<C):
  Calls JG 236 #[.agg #[Yv Yi R,Yv Yi C, .slice a n cp],Yv Yi p,Yv Yi q] w fun e w'=> ∃ r,e= .returned r/\OM w' (New w w') r {rows:=((R-1:Nat):Int),cols:=((C-1:Nat):Int),cells:=Zt m C p q R}/\Grow w w':=by
 have ah:=h.len;obtain ⟨A,hw1,hG1,bM,bZ, -,bO, -⟩:=al4 w #[Yv Yi R,Yv Yi C, .slice a n cp] 37 #[Yv Yi 0,Yv Yi 0, .slice none 0 0] 37 #[] 3 #[Yv Yi ((R:Int)-1),Yv Yi ((C:Int)-1), .slice (some ⟨w.heap.size+1+1,0,none⟩) 0 0] 37;have hE:Own A 3 1 (some ⟨w.heap.size+1+1,0,none⟩) 0 0 []:=by rw[hw1];exact (Own.freshAt (cs:= #[]) Θ Γ rfl).grow ((JH _).alloc _ _)
 have ai:A.heap.size=w.heap.size+1+1+1+1:=DR
 have B:=JP w #[Yv Yi R,Yv Yi C, .slice a n cp] 37;obtain ⟨⟨L,M,N⟩, -⟩:=B.three;have hw:wrap64 ((R:Int)-1)=((R-1:Nat):Int):=θ
 have P:wrap64 ((C:Int)-1)=((C-1:Nat):Int):=θ
 have aj:R*C<=24*24:=JL hR hC;clear hw P;go_enter func236,ntmps236;go_wp2_with fail;rw[←hw1];have ak: ∀ q0,q0<w.heap.size->q0<=w.heap.size+1:=fun _ _=>I
 clear hw1 L M N B;go_loopw [8] (fun iv wr=>Keep (fun q=>q<=w.heap.size+1) A wr/\ ∃ (i c2:Nat) (a2:Option Addr),i<=R/\iv=Yv Yi i/\Blk wr (w.heap.size+1+1+1) #[Yv Yi ((R:Int)-1),Yv Yi ((C:Int)-1), .slice a2 (Zt m C p q i).length c2] 37/\Own wr 3 1 a2 (Zt m C p q i).length c2 (ints (Zt m C p q i))/\ ∀ g,blk a2=some g->w.heap.size+2<=g/\g≠w.heap.size+1+1+1) (fun i _=>R-(intOf i).toNat);case atStart=>exact ⟨Keep.refl _ _,0,0,_,JI _,rfl,bO,hE,fun g hg=>κ⟩
 case round=>
  clear bO hE;obtain ⟨hK0,i,c2,a2,hi,rfl,bO,hO,hlo⟩:=hrel;have c:=bM.keep hK0 I;obtain ⟨⟨L,M,N⟩, -⟩:=c.three;have f:=c.lt;by_cases D:i<R
  ·go_wp2;obtain ⟨wo,rfl⟩:=eX wr;clear L M N f c;go_loopw [9] (fun jv wr=>Keep (fun q=>q<=w.heap.size+1) A wr/\ ∃ (j c2:Nat) (a2:Option Addr),j<=C/\jv=Yv Yi j/\Blk wr (w.heap.size+1+1+1) #[Yv Yi ((R:Int)-1),Yv Yi ((C:Int)-1), .slice a2 (ZI m C p q i j (Zt m C p q i)).length c2] 37/\Own wr 3 1 a2 (ZI m C p q i j (Zt m C p q i)).length c2 (ints (ZI m C p q i j (Zt m C p q i)))/\ ∀ g,blk a2=some g->w.heap.size+2<=g/\g≠w.heap.size+1+1+1) (fun j _=>C-(intOf j).toNat);case atStart=>exact ⟨hK0,0,c2,a2,JI _,rfl,bO,hO,hlo⟩
   case round=>
    clear hK0 bO hO hlo;obtain ⟨d,j,V,s,hj,rfl,bO,hO,hlo⟩:=hrel;have c:=bM.keep d I;obtain ⟨⟨L,M,N⟩, -⟩:=c.three;have f:=c.lt;by_cases k:j<C
    ·by_cases O:i≠p/\j≠q
     ·have q1:((i:Int)==(p:Int))=false:=μ;have q2:((i:Int)!=(p:Int))=true:=Ψ;have q3:((j:Int)==(q:Int))=false:=μ;have q4:((j:Int)!=(q:Int))=true:=Ψ;have E:ZI m C p q i (j+1) (Zt m C p q i)=ZI m C p q i j (Zt m C p q i)++[cell m C i j]:=(by simp only[ZI];rw[if_pos O]);have HX:=hid E;have al:(ZI m C p q i j (Zt m C p q i)).length<=1000:=AP;clear E;obtain ⟨⟨o0,o1,o2⟩,of0,of1,of2⟩:=bO.three;have hltO:=bO.lt;have nM:blk s≠some w.heap.size:=fun e=>Bl;have nO:blk s≠some (w.heap.size+1+1+1):=fun e=>(hlo _ e).2 rfl;have am:=Zf k D;have W:RdI wr (fun b=>b<w.heap.size) a n cp m:=((h.weak (T:=fun b=>b<w.heap.size) (fun b hb _=>hb)).grow hG1).keep d (fun b _ hb=>I);go_wp2;refine Zk2 9 (fun g=>blk s≠some g) [([0,1,2,3,4],some 5),([],some 6),([],some 7),([8],some 9)] ?_;refine Zct ?_;intro K hK;refine (ZaA a n cp C i j (i*C+j) (R:Int) (cell m C i j) m _ (W.grow (JH _).drew) rfl (Zeq hl D k) I I I I).mono ?_;rintro e w2 ⟨rfl,X⟩;have hGa:=(JH wr).drew.trans X;go_wp2_with fail;refine hK _ _ ((fun _=>hGa.any)) ?_;clear hK K;refine Zct ?_;intro K hK;have t:=hGa.alloc #[Yv Yi (cell m C i j)] 3;refine hK _ _ ((fun _=>t.any)) ?_;clear hK K;refine Zh ?_;refine ZY rfl (fun K hK=> ?_);have F:=hO.grow t;refine ZiY (.tmp 39) (.tmp 44) _ rfl T_ints rfl F rfl (Row.built (S:=fun _=>True) 1 Γ rfl trivial) γ I Γ ?_;intro z G H hA4;have v:Keep (fun g=>blk s≠some g) wr H:=t.any.trans hA4.keep;refine hK _ _ ((fun _=>v)) ?_;clear hK K;simp only[putP];refine Zh ?_;refine ZY rfl (fun K hK=> ?_);have y:=bO.keep v nO;have o: ∀ g,blk z=some g->w.heap.size+2<=g/\g≠w.heap.size+1+1+1:=fun g hg=>by
       exact Iz
      have Y:Own H 3 1 z (ZI m C p q i (j+1) (Zt m C p q i)).length G (ints (ZI m C p q i (j+1) (Zt m C p q i))):=CZ;have HL:=hid (show (ZI m C p q i (j+1) (Zt m C p q i)).length=(ZI m C p q i j (Zt m C p q i)).length+1 by rw[HX.out];simp);obtain ⟨⟨an,ao,ap⟩,ae,af,ag⟩:=y.three;have Z:=y.lt;have aa:=y.set 2 (.slice z ((ZI m C p q i j (Zt m C p q i)).length+1) G);have J:Keep (fun g=>g≠w.heap.size+1+1+1) H (H.setCell ⟨w.heap.size+1+1+1,2,none⟩ (.slice z ((ZI m C p q i j (Zt m C p q i)).length+1) G)):=kS;have ab:=Y.keep J fun g hg _=>(o g hg).2;have ad:Keep (fun q=>q<=w.heap.size+1) A (H.setCell ⟨w.heap.size+1+1+1,2,none⟩ (.slice z ((ZI m C p q i j (Zt m C p q i)).length+1) G)):=
       (d.trans (v.mono fun g _ hg e=>Fq)).trans (J.mono fun g _ hg=>I)
      clear hA4 hO F o0 o1 o2 of0 of1 of2;go_wp2_with fail;refine hK _ _ ((fun h=>(h rfl).elim)) ?_;clear hK K;refine Z8 ?_;go_wp2;go_roundw;case rel=>exact ⟨ad,j+1,G,z,I,Δ,by rw[HL.out];exact aa,ab,o⟩
      case measure=>exact FN
     ·have E:ZI m C p q i (j+1) (Zt m C p q i)=ZI m C p q i j (Zt m C p q i):=(by simp only[ZI];rw[if_neg O]);have HX:=hid E;clear E;by_cases h1:i=p
      ·have q1:((i:Int)==(p:Int))=true:=AU;have q2:((i:Int)!=(p:Int))=false:=AU;clear h1;go_wp2;go_roundw;case rel=>exact ⟨d,j+1,V,s,I,Δ,E8,E7,hlo⟩
       case measure=>exact FN
      ·have h2:j=q:=LV fun h=>O ⟨h1,h⟩;have q1:((i:Int)==(p:Int))=false:=μ;have q2:((i:Int)!=(p:Int))=true:=Ψ;have q3:((j:Int)==(q:Int))=true:=DP;have q4:((j:Int)!=(q:Int))=false:=DP;clear h1 h2 O;go_wp2;go_roundw;case rel=>exact ⟨d,j+1,V,s,I,Δ,E8,E7,hlo⟩
       case measure=>exact FN
    ·obtain rfl:j=C:=I;go_wp2;go_roundw;case rel=>exact ⟨d,i+1,V,s,I,Δ,bO,hO,hlo⟩
     case measure=>exact FN
  ·exact FU
theorem Zl2 {f:List Int->Option Int} {m:List Int} {s:Int} (h:Zcw f m n k=some s):Zcw f m n (k+1)=if m.getD k 0=0 then some s else (f (Zt m n 0 k n)).map fun d=>s+(if k%2=1 then -m.getD k 0 else m.getD k 0)*d:=by
 simp only[Zcw];rw[h];rfl
theorem Zk7: ∀ (N:Nat) {S:Nat->Prop} (a:Option Addr) (n cp:Nat) (m:List Int) (w:World),RdI w S a n cp m->m.length=N*N->N<=6->NumL m->
  Calls JG 235 #[.agg #[Yv Yi N,Yv Yi N, .slice a n cp]] w fun e w'=> ∃ x,e= .returned (.tuple #[Yv Yi x, .bool (Zad N m).isSome])/\(∀ d,Zad N m=some d->x=d)/\Grow w w'
 |0,S,a,n,cp,m,w,h,hl,hN,hm=>by
  have hG1:=(JH w).alloc #[Yv Yi ((0:Nat):Int),Yv Yi ((0:Nat):Int), .slice a n cp] 37;go_enter Qq,Qr;go_wp2
  go_ret2
  exact ⟨1,rfl,fun d hd=>(JJ (show some (1:Int)=some d from hd)),hG1⟩
 |k+1,S,a,n,cp,m,w,h,hl,hN,hm=>by
  have ih:=fun {S:Nat->Prop}=>Zk7 k (S:=S);obtain ⟨N,hNk⟩:=eX (k+1);rw[←hNk] at hl hN ⊢;have hN1:1<=N:=I
  have hln:=h.len;have hNN:N*N<=6*6:=JL hN hN;have hG1:=(JH w).alloc #[Yv Yi (N:Int),Yv Yi (N:Int), .slice a n cp] 37;have bM:=JP w #[Yv Yi (N:Int),Yv Yi (N:Int), .slice a n cp] 37;have HNk:=hid hNk;have HD:=hid (show Zad N m=(Zcw (Zad k) m N N).bind Zf3 by rw[hNk];rfl);have HB:=hid (fun (j:Nat) (s:Int) (hs:Zcw (Zad k) m N j=some s)=>(by rw[hNk] at hs;exact ZlE hm hs: -(160000000000000000*(j:Int))<=s/\s<=160000000000000000*(j:Int)));have q0:((N:Int)==0)=false:=μ
  clear hNk;go_enter Qq,Qr;go_wp2_with fail;go_loopw [4,5] (fun sv jv wr=>Grow (w.alloc (.cells #[Yv Yi (N:Int),Yv Yi (N:Int), .slice a n cp] 37)) wr/\ ∃ (j:Nat) (s:Int),j<=N/\jv=Yv Yi j/\sv=Yv Yi s/\Zcw (Zad k) m N j=some s) (fun _ j _=>N-(intOf j).toNat);case atStart=>exact ⟨JH _,0,0,JI _,rfl,rfl,rfl⟩
  case round=>
   obtain ⟨hG,j,s,hj,rfl,rfl,hs⟩:=hrel;have bMr:=bM.grow hG;obtain ⟨⟨m0,m1,m2⟩, -⟩:=bMr.three;have hltM:=bMr.lt;have hb:=HB.out j s hs;have hGw:=hG1.trans hG;by_cases hlt:j<N
   ·have hrd:=h.grow hGw;have hx:m[0*N+j]? =some (m.getD j 0):=(by rw[Nat.zero_mul,Nat.zero_add,Kr,JR (by rw[hl];have:=Zf (C:=N) (R:=N) hlt hN1;omega)];rfl);have hc: -400000000<=m.getD j 0/\m.getD j 0<=400000000:=hm.getD j;have Hst:=hid (Zl2 hs);have hcr:=ZeA (m:=m) (p:=0) (i:=N) hlt;rw[if_pos I] at hcr;have Hcr:=hid hcr;generalize hcc:m.getD j 0=c at *;clear hcc hcr;go_wp2_with fail;refine (ZaA a n cp N 0 j (0*N+j) (N:Int) c m _ hrd rfl hx I I I I).mono ?_;rintro e w2 ⟨rfl,hG2⟩;have hG02:=hG.trans hG2;have bM2:=bM.grow hG02;have hrd2:=hrd.grow hG2;clear m0 m1 m2 hltM bMr;obtain ⟨⟨m0,m1,m2⟩, -⟩:=bM2.three;have hltM:=bM2.lt;by_cases h0:c=0
    ·rw[if_pos h0] at Hst;have q1:(c==0)=true:=Av;clear h0;go_wp2;go_roundw;case rel=>exact ⟨hG02,j+1,s,I,Δ,rfl,Hst.out⟩
     case measure=>exact FN
    ·rw[if_neg h0] at Hst;have q1:(c==0)=false:=Ee;go_wp2_with fail;refine (Zm5 a n cp N N 0 j m _ hrd2 hl I I hN1 hN1 hm I hlt).mono ?_;rintro e w3 ⟨rv,rfl,⟨ra,rn,rc,rfl,oR,rR,fR, -, -⟩,hG3⟩;have hkN:N-1=k:=(by have:=HNk.out;omega);rw[hkN];have rdR:=oR.rdI (S:=fun _=>True) (fun _ _=>trivial) rR;go_wp2_with fail;refine (ih ra rn rc (Zt m N 0 j N) _ rdR (by rw[Hcr.out,hkN]) I (ZdO hm)).mono ?_;rintro e w4 ⟨x,rfl,hxd,hG4⟩;have hG04:=(hG02.trans hG3).trans hG4;have bM4:=bM.grow hG04;clear m0 m1 m2 hltM bM2;obtain ⟨⟨m0,m1,m2⟩, -⟩:=bM4.three;have hltM:=bM4.lt;cases hd:Zad k (Zt m N 0 j N) with
     |none=>
      rw[hd] at Hst;have Hn:=hid (show Zad N m=none by rw[HD.out,ZpU Hst.out hlt];rfl);clear hd hxd;go_wp2
      go_ret2
      exact ⟨0,by rw[Hn.out];rfl,fun d hd=>(by rw[Hn.out] at hd;cases hd),hG1.trans hG04⟩
     |some d=>
      rw[hd] at Hst;have hdn:=Zb0 hd;obtain rfl:x=d:=hxd d hd;clear hd hxd;by_cases h2:j%2=1
      ·have q2:(j:Int)%2=1:=I;have q3:(j:Int).tmod 2=1:=Bd;have Hs2:=hid (show Zcw (Zad k) m N (j+1)=some (s+ -c*x) by rw[Hst.out,if_pos h2];rfl);have e1:=Zbk (p:=400000000) (q:=400000000) (a:= -c) ⟨I,I⟩ hdn;have w1':wrap64 (-c)= -c:=θ;have w2':wrap64 (-c*x)= -c*x:=θ;have w3':wrap64 (s+ -c*x)=s+ -c*x:=θ;clear h2 e1;go_wp2;go_roundw;case rel=>exact ⟨hG04,j+1,_,I,Δ,rfl,by rw[w3'];exact Hs2.out⟩
       case measure=>exact FN
      ·have q2: ¬ (j:Int)%2=1:=I;have q3: ¬ (j:Int).tmod 2=1:=Bd;have q4:((j:Int)%2==1)=false:=(by rw[beq_eq_false_iff_ne];exact q2);have Hs2:=hid (show Zcw (Zad k) m N (j+1)=some (s+c*x) by rw[Hst.out,if_neg h2];rfl);have e1:=Zbk (p:=400000000) (q:=400000000) hc hdn;have w2':wrap64 (c*x)=c*x:=θ;have w3':wrap64 (s+c*x)=s+c*x:=θ;clear h2 e1;go_wp2;go_roundw;case rel=>exact ⟨hG04,j+1,_,I,Δ,rfl,by rw[w3'];exact Hs2.out⟩
       case measure=>exact FN
   ·obtain rfl:j=N:=I;have Hf:=hid (show Zad j m=Zf3 s by rw[HD.out,hs];rfl);have hfit:(Zf3 s).isSome=Zi s:=by
     unfold Zf3 Zi inB;by_cases e: -400000000<=s/\s<=400000000
     ·rw[if_pos e];simp[e.1,e.2]
     ·rw[if_neg e]
      symm
      simp only[Option.isSome_none,Ox,decide_eq_false_iff_not];omega
    have Hfit:=hid hfit;clear hfit hs;go_wp2_with fail;refine (Z0 s _).mono ?_;rintro e w2 ⟨rfl,rfl⟩;go_wp2
    go_ret2
    exact ⟨s,by rw[Hf.out,Hfit.out];rfl,fun d hd=>(by rw[Hf.out] at hd;exact (Zoa hd).1.symm),hGw⟩
theorem Zfo (h:VM w S v m) (hb:bdM m<=1048576):
  Calls JG 234 #[v] w fun e w'=>e= .returned (.bool (ZZ m))/\Grow w w':=by
 have b:=h;obtain ⟨a,n,c,rfl,h,d,f⟩:=h;have hG1:=(JH w).alloc #[Yv Yi m.rows,Yv Yi m.cols, .slice a n c] 37;have bM:=JP w #[Yv Yi m.rows,Yv Yi m.cols, .slice a n c] 37;go_enter func234,ntmps234;go_wp2_with fail;refine (ZG (b.grow hG1) I).mono ?_;exact Ga
def ZdS (m:Mat):Bool:=ZZ m&&(Zad m.rows.toNat m.cells).isSome
def dtV (m:Mat):Int:=if ZZ m=true then (Zad m.rows.toNat m.cells).getD 0 else 0
theorem Zdq (h:ZZ m=true): ∃ N:Nat,m.rows=(N:Int)/\m.cols=(N:Int)/\N<=6/\m.cells.length=N*N/\NumL m.cells:=by
 unfold ZZ at h;rw[JQ,JQ,decide_eq_true_eq,decide_eq_true_eq] at h;obtain ⟨a,f,g⟩:=h;obtain ⟨R,C,b,c, -, -,d,e⟩:=Zl a;obtain rfl:C=R:=I
 exact ⟨C,b,c,I,d,e⟩
theorem Zn1 (h:VM w S v m) (hb:bdM m<=1048576):
  Calls JG 171 #[v] w fun e w'=>e= .returned (.tuple #[Yv Yi (dtV m), .bool (ZdS m)])/\Grow w w':=by
 have q:=h;obtain ⟨a,n,c,rfl,h,z,A⟩:=h;have f:=(JH w).alloc #[Yv Yi m.rows,Yv Yi m.cols, .slice a n c] 37;have o:=JP w #[Yv Yi m.rows,Yv Yi m.cols, .slice a n c] 37;go_enter func171,ntmps171;go_wp2_with fail;refine (Zfo (q.grow f) hb).mono ?_;rintro e B ⟨rfl,b⟩;have hG:=f.trans b;cases hm:ZZ m with
 |false=>
  exact IC
 |true=>
  obtain ⟨N,j,p,r,s,t⟩:=Zdq hm;have Hr:=hid (show ZdS m=(Zad N m.cells).isSome/\dtV m=(Zad N m.cells).getD 0 by unfold ZdS dtV;rw[hm,j];exact ⟨rfl,rfl⟩);rw[j,p] at o b;have g:=o.grow b;obtain ⟨⟨C,D,E⟩, -⟩:=g.three;have y:=g.lt;have k:=h.grow hG;clear hm;rw[j,p];go_wp2_with fail;refine (Zk7 N a n c m.cells _ k s r t).mono ?_;rintro e F ⟨x,rfl,l,hG3⟩;cases i:Zad N m.cells with
  |none=>
   rw[i] at Hr;clear l i;go_wp2
   exact Jn
  |some d=>
   obtain rfl:x=d:=l d i;rw[i] at Hr;clear l i;go_wp2
   exact Jn
theorem ZoW {m:List Int} {K R R' t:Nat} (hl:m.length=R*K) (hn:n<=K) (ht:t<R') (hR:R'<=R):
  splice (ints (ZbG m K n t++Ko ((R'-t)*n) 0)) (t*n) (ints ((Zag m K t).take n))=ints (ZbG m K n (t+1)++Ko ((R'-(t+1))*n) 0):=by
 have h1:=Zh9 hl hn (show t<=R by omega);have a:((Zag m K t).take n).length=n:=by rw[List.length_take,Zea hl I];omega
 have b:(R'-t)*n=n+(R'-(t+1))*n:=by rw[show R'-t=(R'-(t+1))+1 by omega,Ki];omega
 unfold splice;rw[ZlX];simp only[ints,List.map_append,KK,a];rw[List.take_append_of_le_length AU,List.take_of_length_le AU,List.drop_append,List.drop_eq_nil_of_le AU,List.append_assoc,List.nil_append];simp only[KK,h1,List.map_replicate,List.drop_replicate];congr 3;rw[b];omega
theorem OI.mt {F:Nat->Prop} {g:Nat} (hg:g=w.heap.size) (hF:F g):OI (w.alloc (.cells #[] 3)) F (.slice (some ⟨g,0,none⟩) 0 0) []:=
 ⟨_,_,_,rfl,Own.freshAt (cs:= #[]) hg Γ rfl,fun x hx=>AO,fun q a=>by simp at a;subst a;exact hF⟩
def ZeJ (m:Mat):Bool:=ZZ m&&(ZaL m.cells m.rows.toNat m.rows.toNat).isSome
def ldL (m:Mat):List Int:=if ZZ m=true then (ZaL m.cells m.rows.toNat m.rows.toNat).getD [] else []
theorem ZiT {g:List Int} {n:Nat}: ∀ {k:Nat} {l:List Int},ZaL g n k=some l->l.length=k/\ ∀ x∈l, -400000000<=x/\x<=400000000
 |0,l,h=>by rw[←JJ (show some []=some l from h)];exact ⟨rfl,fun x hx=>AO⟩
 |k+1,l,h=>by
  simp only[ZaL] at h;cases h1:ZaL g n k with
  |none=>rw[h1] at h;cases h
  |some l0=>
   rw[h1,Kb] at h;cases h2:Zad (k+1) (ZbG g n (k+1) (k+1)) with
   |none=>rw[h2] at h;cases h
   |some d=>
    rw[h2,Option.map_some] at h;obtain ⟨e1,e2⟩:=ZiT h1;rw[←JJ h];refine ⟨by simp[e1],fun x hx=> ?_⟩;rcases List.mem_append.1 hx with hx|hx
    ·exact e2 x hx
    ·rw[List.mem_singleton.1 hx];exact Zb0 h2
theorem Zm9 {g:List Int} {j:Nat} (h:ZaL g n k=none) (hj:k<=j):ZaL g n j=none:=by
 induction j with
 |zero=>
  obtain rfl:k=0:=I
  exact h
 |succ j a=>
  by_cases e:k=j+1
  ·subst e;exact h
  ·simp only[ZaL];rw[a I];rfl
theorem ZuW (h:VM w S v m) (hb:bdM m<=1048576):
  Calls JG 237 #[v] w fun e w'=> ∃ x,e= .returned (.tuple #[x, .bool (ZeJ m)])/\OI w' (New w w') x (ldL m)/\Grow w w':=by
 have hV:=h;obtain ⟨a,n,cp,rfl,h,ir,ic⟩:=h;have ab:=(JH w).alloc #[Yv Yi m.rows,Yv Yi m.cols, .slice a n cp] 37;have bM:=JP w #[Yv Yi m.rows,Yv Yi m.cols, .slice a n cp] 37;have bp:(w.alloc (.cells #[Yv Yi m.rows,Yv Yi m.cols, .slice a n cp] 37)).heap.size=w.heap.size+1:=Θ
 go_enter func237,ntmps237;go_wp2_with fail;refine (Zfo (hV.grow ab) hb).mono ?_;rintro e J ⟨rfl,E⟩;have bq:=E.size;have hG:=ab.trans E;cases hm:ZZ m with
 |false=>
  have Hr:=hid (show ZeJ m=false/\ldL m=[] by unfold ZeJ ldL;rw[hm];exact ⟨rfl,rfl⟩);clear hm;go_wp2
  go_ret2
  exact ⟨_,Cj,by rw[Hr.out.2];exact OI.mt Θ ⟨I,Θ⟩,hG.alloc _ _⟩
 |true=>
  obtain ⟨N,e1,e2,hN,hl,hn⟩:=Zdq hm;have Hr:=hid (show ZeJ m=(ZaL m.cells N N).isSome/\ldL m=(ZaL m.cells N N).getD [] by unfold ZeJ ldL;rw[hm,e1];exact ⟨rfl,rfl⟩);rw[e1,e2] at bM E;have ad:=bM.grow E;have ae:RdI J (fun g=>g<w.heap.size) a n cp m.cells:=(h.weak (T:=fun g=>g<w.heap.size) (fun _ hb _=>hb)).grow hG;obtain ⟨g,hg⟩:=eX m.cells;rw[←hg] at ae hl hn Hr;have Hl:=hid hl;have bm:=ad.lt;have hE:Own (J.alloc (.cells #[] 3)) 3 1 (some ⟨J.heap.size,0,none⟩) 0 0 []:=Own.fresh Γ rfl;clear hm hg h hV hl;rw[e1,e2];clear e1 e2 ir ic hb;go_wp2;go_loopw [4,5] (fun ov kv wr=>Grow J wr/\ ∃ (k c2:Nat) (a2:Option Addr) (l:List Int),k<=N/\kv=Yv Yi ((k+1:Nat):Int)/\ov= .slice a2 k c2/\ZaL g N k=some l/\Own wr 3 1 a2 k c2 (ints l)/\ ∀ q,blk a2=some q->J.heap.size<=q) (fun _ k _=>N+1-(intOf k).toNat);case atStart=>exact ⟨(JH _).alloc _ _,0,0,_,[],JI _,rfl,rfl,rfl,hE,fun q hq=>ψ⟩
  case round=>
   clear hE;obtain ⟨p,k,c2,a2,l,hk,rfl,rfl,V,hO,W⟩:=hrel;have X:=ad.grow p;obtain ⟨⟨m0,m1,m2⟩, -⟩:=X.three;have af:=X.lt;have br:=p.size;have ay:=ZiT V;have F:=hid V;clear V;by_cases bs:k<N
   ·have az:((k+1:Nat):Int)<=(N:Int):=I;go_wp2_with fail;refine (Zc9 (k+1) (k+1) _ I I).mono ?_;rintro e w3 ⟨r,rfl,G,L,a0⟩;obtain ⟨w4,Y,ag,bO, -⟩:=al1 w3 #[Yv Yi ((k+1:Nat):Int),Yv Yi ((k+1:Nat):Int), .slice r ((k+1)*(k+1)) ((k+1)*(k+1))] 37;have c:=a0.trans ag;have f:=G.grow ag;have a1:=X.grow c;have a3:=(ae.grow p).grow c;have bt:=hO.grow c;have nM:blk r≠some w.heap.size:=fun e=>(by have:=L _ e;omega);have nO:blk r≠some w3.heap.size:=fun e=>(by have:=G.lt e;omega);have nD: ∀ g,g<wr.heap.size->blk r≠some g:=fun g hg e=>(by have:=L _ e;omega);have a4:(k+1)*(k+1)<=6*6:=JL I I;have hz:ints (Ko ((k+1)*(k+1)) 0)=ints (ZbG g N (k+1) 0++Ko ((k+1-0)*(k+1)) 0):=(by simp[ZbG]);rw[hz] at f;have a6:=hid Y;have HO:=hid hO;have ah: ∀ q,blk a2=some q->q<wr.heap.size:=fun q hq=>hO.lt hq;obtain ⟨b,s⟩:=eX (k+1);rw[←s] at bO f a4 G;rw[←s];have HK:=hid s;have o:b<=N:=I;have M:w4=w3.alloc (.cells #[Yv Yi (b:Int),Yv Yi (b:Int), .slice r (b*b) (b*b)] 37):=(by rw[Y,s]);have ai:=hid M;clear Y M hz m0 m1 m2 af hO G s a6;go_wp2;rw[←ai.out];obtain ⟨wo,rfl⟩:=eX wr;go_loopw [7] (fun iv wr=>Keep (fun g=>blk r≠some g) w4 wr/\ ∃ i:Nat,i<=b/\iv=Yv Yi i/\Own wr 3 1 r (b*b) (b*b) (ints (ZbG g N b i++Ko ((b-i)*b) 0))) (fun i _=>b-(intOf i).toNat);case atStart=>exact ⟨Keep.refl _ _,0,JI _,rfl,f⟩
    case round=>
     clear f;obtain ⟨y,i,hi,rfl,z⟩:=hrel;have a7:=a1.keep y nM;have aj:=bO.keep y nO;have Z:=a3.keep y (fun q hq h0=>nD q I);by_cases A:i<b
     ·have ba:=Zf (C:=b+1) (j:=0) I A;have bb:i*b+b<=b*b:=(by have:=Nat.mul_le_mul_right b (show i+1<=b from A);rw[Ki] at this;omega);have ak:=hid (ZoW (m:=g) (K:=N) (R:=N) (R':=b) (n:=b) (t:=i) Hl.out o A o);clear ba;go_wp2;have bn:=Z.row.le;have al:=Z.len;have bv:=hid al;clear al;refine Zcr (fun g=>blk r≠some g) [([0,1,3,4,6],some 2),([],some 5),([7],some 8)] ?_;refine Zh ?_;obtain ⟨w7,hw7⟩:=eX wr.drew;rw[←hw7];have am:Grow wr w7:=Cu;clear hw7;refine Zu rfl (fun K hK=> ?_);go_wp2_with fail;refine (ZfX r (b*b) (b*b) b i (b:Int) _ _ (z.grow am) (by simpa using bb) I I).mono ?_;rintro e w8 ⟨a8,rfl,bc,bd⟩;have B:=am.trans bd;go_wp2_with fail;refine hK _ _ (B.any) ?_;clear hK K;refine ZR ?_;intro K hK;refine (Zlq a n cp N N i g _ (Z.grow B) Hl.out I I I).mono ?_;rintro e w9 ⟨a9,c9,rfl,O,be⟩;have D:=B.trans be;have bw:=O.row.le;have bx:=T_ints.atH (a:=a9) (n:=N) (cap:=c9) (k:=b) (i:=(b:Int)) Θ I;have rP:=O.pre o;go_wp2_with fail;refine hK _ _ (D.any) ?_;clear hK K;refine Zh ?_;refine Zu rfl (fun K hK=> ?_);have an:=z.grow D;refine Zvf rfl T_ints rfl rfl an rP.row (ZdE _) I bc ?_;intro bf bz P ao;rw[ak.out] at P;have ap:Keep (fun g=>blk r≠some g) wr bf:=D.any.trans ao;refine hK _ _ ap ?_;clear hK K;refine Ze ?_;clear ak z an;go_wp2;go_roundw;case rel=>exact ⟨y.trans ap,i+1,I,Δ,P⟩
      case measure=>exact FN
     ·obtain rfl:i=b:=I;have bg:=Zh9 (m:=g) (K:=N) (n:=i) Hl.out o (t:=i) o;have e0:ZbG g N i i++Ko ((i-i)*i) 0=ZbG g N i i:=Θ;rw[e0] at z;have bh:=z.rdI (S:=fun _=>True) (fun _ _=>trivial) (Zp (Zkf hn i));obtain ⟨⟨o0,o1,o2⟩, -⟩:=aj.three;have bo:=aj.lt;go_wp2_with fail;refine (Zk7 i r (i*i) (i*i) (ZbG g N i i) _ bh bg I (Zkf hn i)).mono ?_;rintro e wy ⟨x,rfl,hx,aq⟩;have ar:Keep (fun q=>q<wo.heap.size) wo wy:=(c.any.trans (y.mono fun q hq h0=>nD q h0)).trans aq.any;have b0:=(a7.grow aq);have H:Grow J wy:=p.keep (ar.mono fun q _ hq=>hq) fun q hq=>I;cases hd:Zad i (ZbG g N i i) with
      |none=>
       have Hn:=hid (show ZaL g N N=none by
        refine Zm9 (k:=i) ?_ I;rw[HK.out];simp only[ZaL];rw[F.out,Kb, ←HK.out,hd];rfl)
       have b1:=H.size;clear hd hx;go_wp2
       go_ret2
       exact ⟨_,by rw[Hr.out.1,Hn.out];rfl,by rw[Hr.out.2,Hn.out];exact OI.mt rfl ⟨I,Θ⟩,(hG.trans H).alloc _ _⟩
      |some d=>
       obtain rfl:x=d:=hx d hd;have bi:=hid (show ZaL g N i=some (l++[x]) by
        rw[HK.out];simp only[ZaL];rw[F.out,Kb, ←HK.out,hd];rfl)
       have b2:=Zb0 hd;clear hd hx;have bj:=HO.out.keep ar fun q hq _=>ah q hq;go_wp2_with (at_builtin;refine ZD rfl (.tmp 46) (.tmp 48) _ rfl T_ints rfl (bj.grow ((JH _).alloc _ _)) rfl (Row.built (S:=fun _=>True) 1 Γ rfl trivial) γ I Γ ?_;intro a5 c5 w5 aa);have bk:Grow J w5:=aa.grow (H.alloc _ _) W;have av:Own w5 3 1 a5 (k+1) c5 (ints (l++[x])):=(by have:=aa.own;simpa using this);have aw: ∀ q,blk a5=some q->J.heap.size<=q:=aa.lo (by have:=H.size;simp;omega) W;rw[←HK.out] at av;have ax:i=k+1:=HK.out;have bl:=hid ax;rw[←bl.out];clear ax;go_wp2;go_roundw;case rel=>exact ⟨bk,i,c5,a5,l++[x],o,Δ,rfl,bi.out,av,aw⟩
       case measure=>exact FN
   ·obtain rfl:k=N:=I;have az: ¬ ((k+1:Nat):Int)<=(k:Int):=I;go_wp2
    go_ret2
    exact ⟨_,by rw[Hr.out.1,F.out];rfl,by rw[Hr.out.2,F.out];exact ⟨_,_,_,rfl,hO,fun x hx=>by have:=ay.2 x hx;unfold I64;omega,fun q hq=>⟨by have:=W q hq;omega,hO.lt hq⟩⟩,hG.trans p⟩
theorem Ztl (a:Option Addr) (n cp R C p q:Nat) (m:List Int) (w:World) (h:RdI w S a n cp m) (hl:m.length=R*C) (hR:R<=24) (hC:C<=24) (hR1:1<=R) (hC1:1<=C) (hm:NumL m) (_hp:p<=24) (hq:q<C):
  Calls JG 196 #[.agg #[Yv Yi R,Yv Yi C, .slice a n cp],Yv Yi p,Yv Yi q] w fun e w'=> ∃ r,e= .returned r/\OM w' (New w w') r {rows:=((R-1:Nat):Int),cols:=((C-1:Nat):Int),cells:=Zt m C p q R}/\Grow w w':=by
 have hln:=h.len;obtain ⟨D,hw1,hG1,bM,bZ,bO, -⟩:=al3 w #[Yv Yi R,Yv Yi C, .slice a n cp] 37 #[Yv Yi 0,Yv Yi 0, .slice none 0 0] 37 #[Yv Yi ((R:Int)-1),Yv Yi ((C:Int)-1), .slice none 0 0] 37;have hE:Own D 3 1 none 0 0 []:=Own.nilw;have E:D.heap.size=w.heap.size+1+1+1:=DR
 have F:=JP w #[Yv Yi R,Yv Yi C, .slice a n cp] 37;obtain ⟨⟨V,W,X⟩, -⟩:=F.three;have hw:wrap64 ((R:Int)-1)=((R-1:Nat):Int):=θ
 have Z:wrap64 ((C:Int)-1)=((C-1:Nat):Int):=θ
 have aq:R*C<=24*24:=JL hR hC;clear hw Z;go_enter func196,ntmps196;go_wp2_with fail;rw[←hw1];have ar: ∀ q0,q0<w.heap.size->q0<=w.heap.size+1:=fun _ _=>I
 clear hw1 V W X F;go_loopw [8] (fun iv wr=>Keep (fun q=>q<=w.heap.size+1) D wr/\ ∃ (i c2:Nat) (a2:Option Addr),i<=R/\iv=Yv Yi i/\Blk wr (w.heap.size+1+1) #[Yv Yi ((R:Int)-1),Yv Yi ((C:Int)-1), .slice a2 (Zt m C p q i).length c2] 37/\Own wr 3 1 a2 (Zt m C p q i).length c2 (ints (Zt m C p q i))/\ ∀ g,blk a2=some g->w.heap.size+2<=g/\g≠w.heap.size+1+1) (fun i _=>R-(intOf i).toNat);case atStart=>exact ⟨Keep.refl _ _,0,0,_,JI _,rfl,bO,hE,fun g hg=>Ci⟩
 case round=>
  clear bO hE;obtain ⟨hK0,i,c2,a2,hi,rfl,bO,hO,hlo⟩:=hrel;have d:=bM.keep hK0 I;obtain ⟨⟨V,W,X⟩, -⟩:=d.three;have o:=d.lt;by_cases G:i<R
  ·go_wp2;obtain ⟨wo,rfl⟩:=eX wr;clear V W X o d;go_loopw [9] (fun jv wr=>Keep (fun q=>q<=w.heap.size+1) D wr/\ ∃ (j c2:Nat) (a2:Option Addr),j<=C/\jv=Yv Yi j/\Blk wr (w.heap.size+1+1) #[Yv Yi ((R:Int)-1),Yv Yi ((C:Int)-1), .slice a2 (ZI m C p q i j (Zt m C p q i)).length c2] 37/\Own wr 3 1 a2 (ZI m C p q i j (Zt m C p q i)).length c2 (ints (ZI m C p q i j (Zt m C p q i)))/\ ∀ g,blk a2=some g->w.heap.size+2<=g/\g≠w.heap.size+1+1) (fun j _=>C-(intOf j).toNat);case atStart=>exact ⟨hK0,0,c2,a2,JI _,rfl,bO,hO,hlo⟩
   case round=>
    clear hK0 bO hO hlo;obtain ⟨f,j,c3,s,hj,rfl,bO,hO,hlo⟩:=hrel;have d:=bM.keep f I;obtain ⟨⟨V,W,X⟩, -⟩:=d.three;have o:=d.lt;by_cases t:j<C
    ·by_cases Y:i≠p/\j≠q
     ·have q1:((i:Int)==(p:Int))=false:=μ;have q2:((i:Int)!=(p:Int))=true:=Ψ;have q3:((j:Int)==(q:Int))=false:=μ;have q4:((j:Int)!=(q:Int))=true:=Ψ;have H:ZI m C p q i (j+1) (Zt m C p q i)=ZI m C p q i j (Zt m C p q i)++[cell m C i j]:=(by simp only[ZI];rw[if_pos Y]);have HX:=hid H;have av:(ZI m C p q i j (Zt m C p q i)).length<=1000:=AP;clear H;obtain ⟨⟨o0,o1,o2⟩,of0,of1,of2⟩:=bO.three;have hltO:=bO.lt;have nM:blk s≠some w.heap.size:=fun e=>Bl;have nO:blk s≠some (w.heap.size+1+1):=fun e=>(hlo _ e).2 rfl;have hcl:=Zf t G;have aa:RdI wr (fun b=>b<w.heap.size) a n cp m:=((h.weak (T:=fun b=>b<w.heap.size) (fun b hb _=>hb)).grow hG1).keep f (fun b _ hb=>I);obtain ⟨ab,ao,ac,rfl,J, -,ad,ak,al⟩:=aa.at (k:=i*C+j) Fm;obtain rfl:ac=cell m C i j:=(by rw[Zeq hl G t] at J;exact (JJ J).symm);have aw:i*C<=24*24:=JL I hC;have u1:=Z6 (i:=i) (c:=C) I I;have u2:=ZaF (i:=i) (c:=C) (j:=j) I I I rfl;have ax:i*C+j<n:=Fm;have ay:ab<w.heap.size:=ad;have nA:blk s≠some ab:=fun e=>Bl;generalize cell m C i j=x at *;generalize E:i*C+j=s1 at *;clear E;go_wp2;refine Zk2 15 (fun g=>blk s≠some g) [([0,1,2,3,4,5,6,7,8,9,10,11],some 12),([],some 13),([14],some 15)] ?_;refine Zh ?_;obtain ⟨wd,hwd⟩:=eX wr.drew;rw[←hwd];have L:Grow wr wd:=Ed;clear hwd;refine ZY rfl (fun K hK=> ?_);go_wp2_with fail;have y:Grow wr (wd.alloc (.cells #[Yv Yi x] 3)):=L.alloc _ _;refine hK _ _ ((fun _=>y.any)) ?_;clear hK K;refine Zh ?_;refine ZY rfl (fun K hK=> ?_);have M:=hO.grow y;refine ZiY (.tmp 38) (.tmp 49) _ rfl T_ints rfl M rfl (Row.built (S:=fun _=>True) 1 Γ rfl trivial) γ I Γ ?_;intro B N O hA4;have z:Keep (fun g=>blk s≠some g) wr O:=y.any.trans hA4.keep;refine hK _ _ ((fun _=>z)) ?_;clear hK K;simp only[putP];refine Zh ?_;refine ZY rfl (fun K hK=> ?_);have A:=bO.keep z nO;have v: ∀ g,blk B=some g->w.heap.size+2<=g/\g≠w.heap.size+1+1:=fun g hg=>by
       rcases hA4.new with e|⟨g',e,ae⟩
       ·rw[e] at hg;exact hlo g hg
       ·rw[e] at hg;obtain rfl:=JJ hg;have:=L.size;simp at ae;omega
      have af:Own O 3 1 B (ZI m C p q i (j+1) (Zt m C p q i)).length N (ints (ZI m C p q i (j+1) (Zt m C p q i))):=CZ;have HL:=hid (show (ZI m C p q i (j+1) (Zt m C p q i)).length=(ZI m C p q i j (Zt m C p q i)).length+1 by rw[HX.out];simp);obtain ⟨⟨az,a0,a1⟩,am,an,ap⟩:=A.three;have ag:=A.lt;have ah:=A.set 2 (.slice B ((ZI m C p q i j (Zt m C p q i)).length+1) N);have P:Keep (fun g=>g≠w.heap.size+1+1) O (O.setCell ⟨w.heap.size+1+1,2,none⟩ (.slice B ((ZI m C p q i j (Zt m C p q i)).length+1) N)):=kS;have ai:=af.keep P fun g hg _=>(v g hg).2;have aj:Keep (fun q=>q<=w.heap.size+1) D (O.setCell ⟨w.heap.size+1+1,2,none⟩ (.slice B ((ZI m C p q i j (Zt m C p q i)).length+1) N)):=
       (f.trans (z.mono fun g _ hg e=>Fq)).trans (P.mono fun g _ hg=>I)
      clear hA4 hO M o0 o1 o2 of0 of1 of2;go_wp2_with fail;refine hK _ _ ((fun h=>(h rfl).elim)) ?_;clear hK K;refine Z8 ?_;go_wp2;go_roundw;case rel=>exact ⟨aj,j+1,N,B,I,Δ,by rw[HL.out];exact ah,ai,v⟩
      case measure=>exact FN
     ·have H:ZI m C p q i (j+1) (Zt m C p q i)=ZI m C p q i j (Zt m C p q i):=(by simp only[ZI];rw[if_neg Y]);have HX:=hid H;clear H;by_cases h1:i=p
      ·have q1:((i:Int)==(p:Int))=true:=AU;have q2:((i:Int)!=(p:Int))=false:=AU;clear h1;go_wp2;go_roundw;case rel=>exact ⟨f,j+1,c3,s,I,Δ,E8,E7,hlo⟩
       case measure=>exact FN
      ·have h2:j=q:=LV fun h=>Y ⟨h1,h⟩;have q1:((i:Int)==(p:Int))=false:=μ;have q2:((i:Int)!=(p:Int))=true:=Ψ;have q3:((j:Int)==(q:Int))=true:=DP;have q4:((j:Int)!=(q:Int))=false:=DP;clear h1 h2 Y;go_wp2;go_roundw;case rel=>exact ⟨f,j+1,c3,s,I,Δ,E8,E7,hlo⟩
       case measure=>exact FN
    ·obtain rfl:j=C:=I;go_wp2;go_roundw;case rel=>exact ⟨f,i+1,c3,s,I,Δ,bO,hO,hlo⟩
     case measure=>exact FN
  ·exact FU
theorem ZnT: ∀ (N:Nat) {S:Nat->Prop} (a:Option Addr) (n cp:Nat) (m:List Int) (w:World),RdI w S a n cp m->m.length=N*N->N<=6->NumL m->
  Calls JG 143 #[.agg #[Yv Yi N,Yv Yi N, .slice a n cp]] w fun e w'=>e= .returned (Yv Yi ((Zad N m).getD ZS))/\Grow w w'
 |0,S,a,n,cp,m,w,h,hl,hN,hm=>by have hG1:=(JH w).alloc #[Yv Yi ((0:Nat):Int),Yv Yi ((0:Nat):Int), .slice a n cp] 37;go_enter Qs,Qu;go_wp2;go_ret;exact ⟨rfl,hG1⟩
 |k+1,S,a,n,cp,m,w,h,hl,hN,hm=>by
  have ih:=fun {S:Nat->Prop}=>ZnT k (S:=S);obtain ⟨N,hNk⟩:=eX (k+1);rw[←hNk] at hl hN ⊢;have hN1:1<=N:=I
  have hln:=h.len;have hNN:N*N<=6*6:=JL hN hN;have hG1:=(JH w).alloc #[Yv Yi (N:Int),Yv Yi (N:Int), .slice a n cp] 37;have bM:=JP w #[Yv Yi (N:Int),Yv Yi (N:Int), .slice a n cp] 37;have HNk:=hid hNk;have HD:=hid (show Zad N m=(Zcw (Zad k) m N N).bind Zf3 by rw[hNk];rfl);have HB:=hid (fun (j:Nat) (s:Int) (hs:Zcw (Zad k) m N j=some s)=>(by rw[hNk] at hs;exact ZlE hm hs: -(160000000000000000*(j:Int))<=s/\s<=160000000000000000*(j:Int)));have q0:((N:Int)==0)=false:=μ
  clear hNk;go_enter Qs,Qu;go_wp2_with fail;go_loopw [3,4,5] (fun sv gv jv wr=>Grow (w.alloc (.cells #[Yv Yi (N:Int),Yv Yi (N:Int), .slice a n cp] 37)) wr/\ ∃ (j:Nat) (s g:Int),j<=N/\jv=Yv Yi j/\sv=Yv Yi s/\gv=Yv Yi g/\g=(if j%2=1 then -1 else 1)/\Zcw (Zad k) m N j=some s) (fun _ _ j _=>N-(intOf j).toNat);case atStart=>exact ⟨JH _,0,0,1,JI _,rfl,rfl,rfl,rfl,rfl⟩
  case round=>
   obtain ⟨hG,j,s,g,hj,rfl,rfl,rfl,hg,hs⟩:=hrel;have bMr:=bM.grow hG;obtain ⟨⟨m0,m1,m2⟩, -⟩:=bMr.three;have hltM:=bMr.lt;have hb:=HB.out j s hs;have hGw:=hG1.trans hG;have hgb:g=1\/g= -1:=(by rw[hg];split<;>simp);have Hgn:=hid (show -g=(if (j+1)%2=1 then -1 else 1) by rw[hg];split<;>split<;>omega);by_cases hlt:j<N
   ·have hrd:=h.grow hGw;have hx:m[j]? =some (m.getD j 0):=(by rw[Kr,JR (by rw[hl];have:=Zf (C:=N) (R:=N) hlt hN1;omega)];rfl);have hc: -400000000<=m.getD j 0/\m.getD j 0<=400000000:=hm.getD j;have hgc:(if j%2=1 then -m.getD j 0 else m.getD j 0)=g*m.getD j 0:=(by rw[hg];split<;>simp);have Hst:=hid (Zl2 hs);rw[hgc] at Hst;have hcr:=ZeA (m:=m) (p:=0) (i:=N) hlt;rw[if_pos I] at hcr;have Hcr:=hid hcr;generalize hcc:m.getD j 0=c at *;obtain ⟨b,off,c2,rfl,hc2, -,hS,hbl,hcell⟩:=hrd.at (k:=j) Fe;obtain rfl:c=c2:=(by rw[hx] at hc2;exact JJ hc2);have wg:wrap64 (-g)= -g:=θ;have hjn:j<n:=Fe;clear hcc hcr hg hgc hx hc2;by_cases h0:c=0
    ·rw[if_pos h0] at Hst;have q1:(c !=0)=false:=Av;clear h0;go_wp2_with fail;go_roundw;case rel=>exact ⟨hG,j+1,s, -g,I,Δ,rfl,rfl,Hgn.out,Hst.out⟩
     case measure=>exact FN
    ·rw[if_neg h0] at Hst;have q1:(c !=0)=true:=Av;clear h0;go_wp2_with fail;refine (Ztl (some ⟨b,off,none⟩) n cp N N 0 j m _ hrd hl I I hN1 hN1 hm I hlt).mono ?_;rintro e w3 ⟨rv,rfl,⟨ra,rn,rc,rfl,oR,rR,fR, -, -⟩,hG3⟩;have hkN:N-1=k:=(by have:=HNk.out;omega);rw[hkN];have rdR:=oR.rdI (S:=fun _=>True) (fun _ _=>trivial) rR;have hcell3:=hG3.cell hcell;have bM3:=bMr.grow hG3;go_wp2_with fail;refine (ih ra rn rc (Zt m N 0 j N) _ rdR (by rw[Hcr.out,hkN]) I (ZdO hm)).mono ?_;rintro e w4 ⟨rfl,hG4⟩;have hG04:=(hG.trans hG3).trans hG4;have hcell4:=hG4.cell hcell3;have bM4:=bM3.grow hG4;clear m0 m1 m2 hltM hcell hcell3;obtain ⟨⟨m0,m1,m2⟩, -⟩:=bM4.three;have hltM:=bM4.lt;cases hd:Zad k (Zt m N 0 j N) with
     |none=>rw[hd] at Hst;have Hn:=hid (show Zad N m=none by rw[HD.out,ZpU Hst.out hlt];rfl);rw[show ((none:Option Int).getD ZS)= -4611686018427387904 from rfl];clear hd;go_wp2_with fail;go_ret;exact ⟨by rw[Hn.out];rfl,hG1.trans hG04⟩
     |some d=>
      rw[hd] at Hst;have hdn:=Zb0 hd;have q2:(d== -4611686018427387904)=false:=μ;rw[show ((some d:Option Int).getD ZS)=d from rfl];have Hs2:=hid (show Zcw (Zad k) m N (j+1)=some (s+g*c*d) by rw[Hst.out];rfl);have e0: -400000000<=g*c/\g*c<=400000000:=(by rcases hgb with rfl|rfl<;>omega);have e1:=Zbk (p:=400000000) (q:=400000000) e0 hdn;have w1':wrap64 (g*c)=g*c:=θ;have w2':wrap64 (g*c*d)=g*c*d:=θ;have w3':wrap64 (s+g*c*d)=s+g*c*d:=θ;clear hd e0 e1 hdn;go_wp2_with fail;go_roundw;case rel=>exact ⟨hG04,j+1,_, -g,I,Δ,rfl,rfl,Hgn.out,by rw[w3'];exact Hs2.out⟩
      case measure=>exact FN
   ·obtain rfl:j=N:=I;have Hf:=hid (show Zad j m=Zf3 s by rw[HD.out,hs];rfl);have hfit:(Zf3 s).getD ZS=Zei s:=by
     unfold Zf3 Zei Zi inB;by_cases e: -400000000<=s/\s<=400000000
     ·rw[if_pos e];simp[e.1,e.2]
     ·rw[if_neg e];have:(decide (-400000000<=s)&&decide (s<=400000000))=false:=(by simp only[Ox,decide_eq_false_iff_not];omega);rw[this];rfl
    have Hfit:=hid hfit;clear hfit hs hg;go_wp2_with fail;refine (ZlL s _).mono ?_;rintro e w2 ⟨rfl,rfl⟩;go_wp2;go_ret;exact ⟨by rw[Hf.out,Hfit.out];rfl,hGw⟩
theorem ZaR (h:VM w S v m) (hb:bdM m<=1048576):
  Calls JG 142 #[v] w fun e w'=>e= .returned (.bool (ZZ m))/\Grow w w':=by
 have b:=h;obtain ⟨a,n,c,rfl,h,d,f⟩:=h;have hG1:=(JH w).alloc #[Yv Yi m.rows,Yv Yi m.cols, .slice a n c] 37;have bM:=JP w #[Yv Yi m.rows,Yv Yi m.cols, .slice a n c] 37;go_enter func142,ntmps142;go_wp2_with fail;refine (ZL (b.grow hG1) I).mono ?_;exact Ga
theorem Zto (h:VM w S v m) (hb:bdM m<=1048576):
  Calls JG 89 #[v] w fun e w'=>e= .returned (.tuple #[Yv Yi (dtV m), .bool (ZdS m)])/\Grow w w':=by
 have p:=h;obtain ⟨a,n,c,rfl,h,y,z⟩:=h;have f:=(JH w).alloc #[Yv Yi m.rows,Yv Yi m.cols, .slice a n c] 37;have l:=JP w #[Yv Yi m.rows,Yv Yi m.cols, .slice a n c] 37;go_enter func89,ntmps89;go_wp2_with fail;refine (ZaR (p.grow f) hb).mono ?_;rintro e A ⟨rfl,b⟩;have hG:=f.trans b;cases hm:ZZ m with
 |false=>
  exact IC
 |true=>
  obtain ⟨N,j,o,q,r,s⟩:=Zdq hm;have Hr:=hid (show ZdS m=(Zad N m.cells).isSome/\dtV m=(Zad N m.cells).getD 0 by unfold ZdS dtV;rw[hm,j];exact ⟨rfl,rfl⟩);rw[j,o] at l b;have g:=l.grow b;obtain ⟨⟨B,C,D⟩, -⟩:=g.three;have t:=g.lt;have k:=h.grow hG;clear hm;rw[j,o];go_wp2_with fail;refine (ZnT N a n c m.cells _ k r q s).mono ?_;rintro e E ⟨rfl,hG3⟩;cases i:Zad N m.cells with
  |none=>
   rw[i] at Hr;rw[show ((none:Option Int).getD ZS)= -4611686018427387904 from rfl];clear i;go_wp2
   exact Jn
  |some d=>
   rw[i] at Hr;have x:=Zb0 i;have F:(d== -4611686018427387904)=false:=μ;rw[show ((some d:Option Int).getD ZS)=d from rfl];clear i;go_wp2
   exact Jn

end Go.Proofs.YtgjefeiddfjjnaaGreatDoor
