/- The program's AdjugateOf: it ends, and what it returns are numbers. -/
import Derived.Test.YtjpcgofidijigaaGreatDoorZNorm
import Derived.Test.YtjpcgofidijigaaGreatDoorZAddM
set_option maxHeartbeats 8000000
set_option maxRecDepth 100000
namespace Go.Proofs.YtjpcgofidijigaaGreatDoor
open Go.RowKit
open Lib (hid)
open Go.Value renaming int->Yv
open Go.IntKind renaming i64->Yi
variable {S:Nat->Prop} {a:Option Addr} {c n:Nat} {m:Mat} {w:World}
def ZsZ (w:World) (m:Mat) (r1 r2:Int) (ra:Option Addr) (rn rc:Nat):Prop:= ∃ (N:Nat) (cs:List Int),m.rows=N/\m.cols=N/\N<=6/\r1=N/\r2=N/\RdI w (fun _=>True) ra rn rc cs/\cs.length=N*N/\NumL cs
theorem ZqJ {l:List Int} (h:NumL l) (i:Nat) {x:Int} (hx: -400000000<=x/\x<=400000000):NumL (l.set i x):=fun z hz=>by
 rcases List.mem_or_eq_of_mem_set hz with hz|rfl
 ·exact h z hz
 ·exact hx
theorem ZsL (h:RdI w S a n c m.cells) (hr:I64 m.rows) (hc:I64 m.cols) (hb:m.cells.length<=1048576):
  Calls Tryz.prog 117 #[.agg #[Yv Yi m.rows,Yv Yi m.cols, .slice a n c]] w fun e w'=> ∃ r1 r2 ra rn rc ok,e= .returned (.tuple #[.agg #[Yv Yi r1,Yv Yi r2, .slice ra rn rc], .bool ok])/\(ok=true->ZsZ w' m r1 r2 ra rn rc)/\Grow w w':=by
 obtain ⟨w1,hw1,hG1,bM,bZ, -⟩:=al2 w #[Yv Yi m.rows,Yv Yi m.cols, .slice a n c] 34 #[Yv Yi 0,Yv Yi 0, .slice none 0 0] 34;obtain ⟨⟨m0,m1,m2⟩, -⟩:=bM.three;have hltM:=bM.lt;rw[hw1] at m0 m1 m2 hltM;have Hw1:=hid hw1;have hm:=h.grow hG1;have hle:w.heap.size<=w.heap.size+1:=by omega
 clear hw1;go_enter Tryz.func117,Tryz.ntmps117;go_wp2_with fail;rw[←Hw1.out];clear m0 m1 m2 hltM;refine (Zd9 (S:=S) (m:=m) ⟨a,n,c,rfl,hm,hr,hc⟩ (by unfold bdM;omega)).mono ?_;rintro e w2 ⟨rfl,hG2⟩;have hG12:=hG1.trans hG2;have bZ2:=bZ.grow hG2;have bM2:=bM.grow hG2;cases hsq:Zas m with
 |false=>obtain ⟨⟨z0,z1,z2⟩,f0,f1,f2⟩:=bZ2.three;have hltZ:=bZ2.lt;go_wp2;exact Zd Zc rfl rfl rfl (((bZ2.set 0 _).set 1 _).set 2 _) ⟨_,_,_,_,_,_,rfl,(fun h=>by cases h),((hG12.setCell hle _).setCell hle _).setCell hle _⟩
 |true=>
  obtain ⟨N,hmr,hmc,hN,hl,hnum⟩:=ZeX hsq;have hNN:N*N<=6*6:=Nat.mul_le_mul hN hN;have hnl:=hm.len;obtain ⟨⟨m0,m1,m2⟩, -⟩:=bM2.three;have hltM:=bM2.lt;rw[hmr] at m0;rw[hmc] at m1;clear hsq;go_wp2_with fail;refine (Zb1 N N _ (by omega) (by omega)).mono ?_;rintro e w3 ⟨ra,rfl,oR,lR,hG3⟩;clear m0 m1 m2 hltM;obtain ⟨w4,hw4,hG4,bO, -⟩:=al1 w3 #[Yv Yi (N:Int),Yv Yi (N:Int), .slice ra (N*N) (N*N)] 34;have oR4:=oR.grow hG4;have hG14:=hG12.trans (hG3.trans hG4);have bM4:=(bM2.grow hG3).grow hG4;have bZ4:=(bZ2.grow hG3).grow hG4;have nO:blk ra≠some w3.heap.size:=fun e=>by have:=oR.lt e;omega
  have hlt2:=bM2.lt;have hltz2:=bZ2.lt;have nM:blk ra≠some w.heap.size:=fun e=>by have:=lR _ e;omega
  have nZ:blk ra≠some (w.heap.size+1):=fun e=>by have:=lR _ e;omega
  have Hw4:=hid hw4;clear hw4 hG3 hG4 oR bM2 bZ2 bM bZ;go_wp2;rw[←Hw4.out];have hs14:=hG14.size;have hle2:=hG12.size;have hz0:NumL (List.replicate (N*N) (0:Int)):=fun x hx=>by have:=List.eq_of_mem_replicate hx;omega
  clear hm hG1 hG2;go_loopw [5] (fun i wr=>Keep (fun q=>blk ra≠some q) w4 wr/\ ∃ (k:Nat) (cs:List Int),k<=N/\i=Yv Yi k/\cs.length=N*N/\NumL cs/\Own wr 3 1 ra (N*N) (N*N) (ints cs)) (fun i _=>N-(intOf i).toNat);case atStart=>exact ⟨Keep.refl _ _,0,_,Nat.zero_le _,rfl,by simp,hz0,oR4⟩
  case round=>
   clear oR4 hz0;obtain ⟨hK,k,cs,hk,rfl,hcl,nC,oC⟩:=hrel;have bMr:=bM4.keep hK nM;obtain ⟨⟨m0,m1,m2⟩, -⟩:=bMr.three;have hltM:=bMr.lt;rw[hmr] at m0;rw[hmc] at m1;by_cases hlt:k<N
   ·go_wp2;go_loopw [6] (fun i wr=>Keep (fun q=>blk ra≠some q) w4 wr/\ ∃ (j:Nat) (cs:List Int),j<=N/\i=Yv Yi j/\cs.length=N*N/\NumL cs/\Own wr 3 1 ra (N*N) (N*N) (ints cs)) (fun i _=>N-(intOf i).toNat);case atStart=>exact ⟨hK,0,cs,Nat.zero_le _,rfl,hcl,nC,oC⟩
    case round=>
     clear hK hcl nC oC bMr m0 m1 m2 hltM;obtain ⟨hK,j,cs,hj,rfl,hcl,nC,oC⟩:=hrel;have bMr:=bM4.keep hK nM;obtain ⟨⟨m0,m1,m2⟩, -⟩:=bMr.three;have hltM:=bMr.lt;rw[hmr] at m0;rw[hmc] at m1;have hGw:=hG14.keep hK fun q hq e=>(by have:=lR _ e;omega);by_cases hltj:j<N
     ·have hm':=h.grow hGw;go_wp2_with fail;refine (ZlH a n c N N k j m.cells _ hm' hl (by omega) (by omega) (by omega) (by omega) hnum (by omega) hltj).mono ?_;rintro e w5 ⟨r,rfl,⟨ca,cn,cc,rfl,oX,xX,fX, -, -⟩,hG5⟩;have hcrl:=ZeG (m:=m.cells) (C:=N) (p:=k) (q:=j) hltj (i:=N);rw[if_pos hlt] at hcrl;clear m0 m1 m2 hltM;go_wp2_with fail;refine (Zi4 (N-1) ca cn cc _ _ (oX.rdI (S:=fun _=>True) (fun _ _=>trivial) xX) hcrl (by omega) (ZeK hnum)).mono ?_;rintro e w6 ⟨x,rfl,hx,hG6⟩;have hG56:=hG5.trans hG6;have hK6:Keep (fun q=>blk ra≠some q) w4 w6:=hK.trans (hG56.any.mono fun _ _ _=>trivial);have oC6:=oC.grow hG56;have bO6:=bO.keep hK6 nO;have bZ6:=bZ4.keep hK6 nZ;have hGz:=hG14.keep hK6 fun q hq e=>(by have:=lR _ e;omega);clear oX xX fX hG5 hG6 hG56 hcrl bMr hm';cases hd:ZaC (N-1) (ZK m.cells N k j N) with
      |none=>obtain ⟨⟨z0,z1,z2⟩,f0,f1,f2⟩:=bZ6.three;have hltZ:=bZ6.lt;clear hx hd;go_wp2;exact Zd Zc rfl rfl rfl (((bZ6.set 0 _).set 1 _).set 2 _) ⟨_,_,_,_,_,_,rfl,(fun h=>by cases h),((hGz.setCell hle _).setCell hle _).setCell hle _⟩
      |some d=>
       obtain rfl:=hx d hd;have hxn:=Zdc hd;obtain ⟨⟨o0,o1,o2⟩, -⟩:=bO6.three;have hltO:=bO6.lt;have w1':wrap64 (-x)= -x:=(by unfold wrap64;omega);have hidx:j*N+k<N*N:=Zr hlt hltj;obtain ⟨t,ht⟩: ∃ t:Nat,k+j=t:=⟨_,rfl⟩;have e1:(k:Int)+(j:Int)=(t:Int):=(by omega);clear hx hd ht;by_cases h2:t%2=1
       case' pos=>have q2:(t:Int)%2=1:=(by omega);have q3:(t:Int).tmod 2=1:=(by rw[Int.tmod_eq_emod_of_nonneg (by omega)];exact q2);have q4:((t:Int)%2==1)=true:=(by rw[beq_iff_eq];exact q2);have hv: -400000000<= -x/\ -x<=400000000:=by omega
       case' neg=>have q2: ¬ (t:Int)%2=1:=(by omega);have q3: ¬ (t:Int).tmod 2=1:=(by rw[Int.tmod_eq_emod_of_nonneg (by omega)];exact q2);have q4:((t:Int)%2==1)=false:=(by rw[beq_eq_false_iff_ne];exact q2);have hv:=hxn
       all_goals
        clear h2;go_wp2_with fail;refine (ZhO ra (N*N) (N*N) N j k (j*N+k) (N:Int) _ cs _ oC6 rfl hidx (by omega) (by omega) (by omega) (by omega)).mono ?_;rintro e w7 ⟨rfl,oC7,hK7⟩;go_wp2;go_roundw;case rel=>exact ⟨hK6.trans hK7,j+1,_,by omega,by go_num,by simp[hcl],ZqJ nC _ (by first |exact hv|(rw[w1'];exact hv)),oC7⟩
        case measure=>simp[intOf];omega
     ·go_wp2;go_roundw;case rel=>exact ⟨hK,k+1,cs,by omega,by go_num,hcl,nC,oC⟩
      case measure=>simp[intOf];omega
   ·have bOr:=bO.keep hK nO;have bZr:=bZ4.keep hK nZ;have hGw:=hG14.keep hK fun q hq e=>(by have:=lR _ e;omega);obtain ⟨⟨o0,o1,o2⟩, -⟩:=bOr.three;obtain ⟨⟨z0,z1,z2⟩,f0,f1,f2⟩:=bZr.three;have hltO:=bOr.lt;have hltZ:=bZr.lt;have hKz:Keep (fun q=>q≠w.heap.size+1) wr (((wr.setCell ⟨w.heap.size+1,0,none⟩ (Yv Yi (N:Int))).setCell ⟨w.heap.size+1,1,none⟩ (Yv Yi (N:Int))).setCell ⟨w.heap.size+1,2,none⟩ (.slice ra (N*N) (N*N))):=(((Keep.refl _ wr).setCell (fun _ e=>e rfl) _).setCell (fun _ e=>e rfl) _).setCell (fun _ e=>e rfl) _;have rC:=(oC.keep hKz fun q hq _ e=>nZ (e▸hq)).rdI (S:=fun _=>True) (fun _ _=>trivial) (Zy nC);clear oC;go_wp2;exact Zd Zc rfl rfl rfl (((bZr.set 0 _).set 1 _).set 2 _) ⟨_,_,_,_,_,true,rfl,fun _=>⟨N,cs,hmr,hmc,hN,rfl,rfl,rC,hcl,nC⟩,((hGw.setCell hle _).setCell hle _).setCell hle _⟩
theorem Zpv {m:List Int} {K t:Nat} (h:t*K<=m.length):ZbC m K K t=m.take (t*K):=by
 rw[←Zhj h];unfold ZbC Z6;simp[List.take_take]
theorem ZsB (h:ZcE m=true) (h0:0<m.rows):0<dtV m:=by
 unfold ZcE at h;rw[Bool.and_eq_true] at h;have hs:Zas m=true:=by have:=h.1;unfold ZbP at this;rw[Bool.and_eq_true] at this;exact this.1
 obtain ⟨N,e1,e2,hN,hl,hn⟩:=ZeX hs;have h2:=h.2;unfold dtV;rw[if_pos hs];rw[e1,Int.toNat_natCast] at h2 ⊢;obtain ⟨k,rfl⟩: ∃ k,N=k+1:=⟨N-1,by omega⟩;simp only[ZaY] at h2;rw[Zpv (by omega),List.take_of_length_le (by omega)] at h2;cases h3:ZaY m.cells (k+1) k with
 |none=>rw[h3] at h2;cases h2
 |some l=>
  rw[h3] at h2;cases h4:ZaC (k+1) m.cells with
  |none=>rw[h4] at h2;cases h2
  |some d=>rw[h4] at h2;simp at h2;simpa using h2.2
theorem Zrr (h:RdI w S a n c m.cells) (hr:I64 m.rows) (hc:I64 m.cols) (hb:m.cells.length<=1048576) (bound:Int):
  Calls Tryz.prog 80 #[.agg #[Yv Yi m.rows,Yv Yi m.cols, .slice a n c],Yv Yi bound] w fun e w'=> ∃ ba bn bc hs ok,e= .returned (.tuple #[.slice ba bn bc, .bool ok])/\(ok=true->bn<=6/\(∀ x∈hs,0<=x/\x<=20000)/\bound<=10000/\RdI w' (fun _=>True) ba bn bc hs)/\Grow w w':=by
 obtain ⟨w1,hw1,hG1,bM, -⟩:=al1 w #[Yv Yi m.rows,Yv Yi m.cols, .slice a n c] 34;obtain ⟨⟨m0,m1,m2⟩, -⟩:=bM.three;have hltM:=bM.lt;rw[hw1] at m0 m1 m2 hltM;have Hw1:=hid hw1;have vM:VM w1 S (.agg #[Yv Yi m.rows,Yv Yi m.cols, .slice a n c]) m:=⟨a,n,c,rfl,h.grow hG1,hr,hc⟩;have hm:=h.grow hG1;have hbd:bdM m<=1048576:=by unfold bdM;omega
 clear hw1;go_enter Tryz.func80,Tryz.ntmps80;go_wp2_with fail;rw[←Hw1.out];clear m0 m1 m2 hltM;refine (ZsL hm hr hc hb).mono ?_;rintro e w2 ⟨r1,r2,ra,rn,rc,ok,rfl,hP,hG2⟩;obtain ⟨w3,hw3,hG3,bA, -⟩:=al1 w2 #[Yv Yi r1,Yv Yi r2, .slice ra rn rc] 34;have hG23:=hG2.trans hG3;obtain ⟨⟨m0,m1,m2⟩, -⟩:=(bM.grow hG23).three;have hltM:=(bM.grow hG23).lt;rw[hw3] at m0 m1 m2 hltM;have Hw3:=hid hw3;clear hw3;go_wp2_with fail;rw[←Hw3.out];clear m0 m1 m2 hltM;refine (ZlS (vM.grow hG23) hbd).mono ?_;rintro e w4 ⟨rfl,hG4⟩;have hG14:=hG23.trans hG4;have hGa:=hG1.trans hG14;have bM4:=bM.grow hG14;have bA4:=bA.grow hG4;cases ok with
 |false=>
  clear hP;go_wp2
  go_ret2
  exact ⟨_,0,0,[],false,rfl,(fun h=>by cases h),hGa.alloc _ _⟩
 |true=>
  obtain ⟨N,cs,hmr,hmc,hN,rfl,rfl,rA,lA,nA⟩:=hP rfl;have rA4:=(rA.grow hG3).grow hG4;have Hmr:=hid hmr;clear hP rA hmr hmc;obtain ⟨⟨m0,m1,m2⟩, -⟩:=bM4.three;have hltM:=bM4.lt;cases hok:Zf1 m with
  |false=>
   go_wp2
   go_ret2
   exact ⟨_,0,0,[],false,rfl,(fun h=>by cases h),hGa.alloc _ _⟩
  |true=>
   clear hok;go_wp2_with fail;refine (Zem (vM.grow hG14) hbd).mono ?_;rintro e w5 ⟨rfl,hG5⟩;have hGb:=hGa.trans hG5;cases hdf:ZcE m with
   |false=>
    clear hdf;go_wp2
    go_ret2
    exact ⟨_,0,0,[],false,rfl,(fun h=>by cases h),hGb.alloc _ _⟩
   |true=>
    have hpos:=hid (ZsB hdf);have bM5:=bM4.grow hG5;have bA5:=bA4.grow hG5;have rA5:=rA4.grow hG5;clear hdf m0 m1 m2 hltM bM bA bM4 bA4 rA4 vM hm hG2 hG3 hG4 hG5 hG14 hG23 h Hw1 Hw3 hG1 hGa;by_cases h0:bound<0
    ·
     go_wp2
     go_ret2
     exact ⟨_,0,0,[],false,rfl,(fun h=>by cases h),hGb.alloc _ _⟩
    by_cases h1:10000<bound
    ·
     go_wp2
     go_ret2
     exact ⟨_,0,0,[],false,rfl,(fun h=>by cases h),hGb.alloc _ _⟩
    have Hd:=hid (show -400000000<=dtV m/\dtV m<=400000000 by
     unfold dtV;split
     ·cases hd:ZaC m.rows.toNat m.cells with
      |none=>simp
      |some d=>exact Zdc hd
     ·omega)
    generalize dtV m=d at *;go_wp2;go_loopw [10,11] (fun o i wr=>Grow w5 wr/\ ∃ (k c1:Nat) (a1:Option Addr) (hs:List Int),k<=N/\i=Yv Yi k/\o= .slice a1 k c1/\(∀ x∈hs,0<=x/\x<=20000)/\Own wr 3 1 a1 k c1 (ints hs)/\(∀ g,blk a1=some g->w5.heap.size<=g)) (fun _ i _=>N-(intOf i).toNat);case atStart=>exact ⟨(Grow.refl _).alloc _ _,0,0,_,[],Nat.zero_le _,rfl,rfl,(fun x hx=>by cases hx),Own.fresh (by unfold maxLen;omega) rfl,fun g hg=>by simp at hg;omega⟩
    case round=>
     obtain ⟨hG,k,c1,a1,hs,hk,rfl,rfl,nB,oB,lB⟩:=hrel;have bMr:=bM5.grow hG;obtain ⟨⟨m0,m1,m2⟩, -⟩:=bMr.three;have hltM:=bMr.lt;rw[Hmr.out] at m0;by_cases hlt:k<N
     ·obtain ⟨⟨x0,x1,x2⟩, -⟩:=(bA5.grow hG).three;have hltA:=(bA5.grow hG).lt;have hi:k*N+k<cs.length:=(by rw[lA];exact Zr hlt hlt);have hxc:cs[k*N+k]? =some cs[k*N+k]:=List.getElem?_eq_getElem hi;have hxn:=nA _ (List.getElem_mem hi);have hrl:=rA5.len;have hNN:N*N<=6*6:=Nat.mul_le_mul hN hN;have Hxc:=hid hxc;clear hxc;generalize cs[k*N+k]=x at *;obtain ⟨y,hy⟩: ∃ y,y=bound*x:=⟨_,rfl⟩;have hyb: -4000000000000<=y/\y<=4000000000000:=by
       have h1:bound*x<=10000*400000000:=by
        rcases Int.le_total 0 x with hx0|hx0
        ·exact Int.mul_le_mul (by omega) (by omega) hx0 (by omega)
        ·have:=Int.mul_nonpos_of_nonneg_of_nonpos (a:=bound) (b:=x) (by omega) hx0;omega
       have h2:bound*(-x)<=10000*400000000:=by
        rcases Int.le_total 0 (-x) with hx0|hx0
        ·exact Int.mul_le_mul (by omega) (by omega) hx0 (by omega)
        ·have:=Int.mul_nonpos_of_nonneg_of_nonpos (a:=bound) (b:= -x) (by omega) hx0;omega
       rw[Int.mul_neg] at h2;omega
      have hwy:wrap64 (bound*x)=y:=(by rw[←hy];exact ZX (by omega));have hwy2:IntKind.i64.wrap (bound*x)=y:=(by rw[←hy];exact IntWalk.i64_in _ (by omega));have d0:0<d:=hpos.out (by rw[Hmr.out];omega);have d1:(d==0)=false:=(by rw[beq_eq_false_iff_ne];omega);clear hy;go_wp2_with fail;refine (Zai (S:=fun _=>True) ra rn rc N k k (k*N+k) (N:Int) x cs _ (rA5.grow hG) rfl Hxc.out (by omega) (by omega) (by omega) (by omega)).mono ?_;rintro e w6 ⟨rfl,hG6⟩;have oB6:=oB.grow hG6;clear x0 x1 x2 hltA m0 m1 m2 hltM;go_wp2_with fail;refine (ZQ y _).mono ?_;rintro e _ ⟨rfl,rfl⟩;cases hyn:Zl y with
      |false=>
       have hGc:=(hGb.trans hG).trans hG6;go_wp2
       go_ret2
       exact ⟨_,0,0,[],false,rfl,(fun h=>by cases h),hGc.alloc _ _⟩
      |true=>
       have hyb2:=ZI.1 hyn;have htd:=Zco y d;have htw:wrap64 (y.tdiv d)=y.tdiv d:=ZX (by omega);have htw2:IntKind.i64.wrap (y.tdiv d)=y.tdiv d:=IntWalk.i64_in _ (by omega);clear hyn;go_wp2_with fail;refine (Zq6 (y.tdiv d) _ (by omega)).mono ?_;rintro e w7 ⟨r,rfl,hr0,hr1,hG7⟩;have hGw:=(hG.trans hG6).trans hG7;have oB7:=oB6.grow hG7;go_wp2_with (at_builtin;refine Zx rfl (.tmp 60) (.tmp 65) _ rfl T_ints rfl (oB7.grow ((Grow.refl _).alloc _ _)) rfl (Row.built (S:=fun _=>True) 1 (by unfold maxLen;omega) rfl trivial) (by simp[Value.oneCell']) (by omega) (by unfold maxLen;omega) ?_;intro a3 c3 w8 hA3);have hGz:Grow w7 (w7.alloc (.cells #[Yv Yi r] 3)):=(Grow.refl _).alloc _ _;have hs2:=hGw.size;have hG8:Grow w5 w8:=hA3.grow (hGw.trans hGz) fun g hg=>lB g hg;have oB8:Own w8 3 1 a3 (k+1) c3 (ints (hs++[r])):=(by have:=hA3.own;simpa [ints] using this);have lB8:=hA3.lo (B:=w5.heap.size) (by simp;omega) (fun g hg=>lB g hg);clear hA3;go_wp2;go_roundw;case rel=>exact ⟨hG8,k+1,c3,a3,hs++[r],by omega,by go_num,rfl,(fun y hy=>(List.mem_append.1 hy).elim (nB y) fun h=>by rw[List.mem_singleton.1 h];omega),oB8,lB8⟩
       case measure=>simp[intOf];omega
     ·obtain rfl:k=N:=(by omega);go_wp2
      go_ret2
      exact ⟨_,_,_,hs,true,rfl,fun _=>⟨hN,nB,by omega,oB.rdI (fun _ _=>trivial) fun x hx=>by have:=nB x hx;unfold I64;omega⟩,hGb.trans hG⟩

end Go.Proofs.YtjpcgofidijigaaGreatDoor
