/- The program's EchelonOf: how many pivots; RankOf. -/
import Derived.Test.YtgjefeiddfjjnaaGreatDoorZNorm
set_option maxHeartbeats 8000000
set_option maxRecDepth 100000
namespace Go.Proofs.YtgjefeiddfjjnaaGreatDoor
open Go.RowKit
open Lib (hid)
open Go.Value renaming int->Yv
open Go.IntKind renaming i64->Yi
open Grow renaming keep->Lx,refl->JH
open Nat renaming le_refl->JM,zero_le->JI
open Go.Proofs.Tryz renaming func107->Q9,ntmps107->QA,prog->JG
variable {S:Nat->Prop} {m:Mat} {v:Value} {w:World}
theorem Zvv (h:Zd m=false):ZfI m=none:=by unfold ZfI;rw[h];rfl
theorem ZnH {R C:Nat} {cells:List Int} (hB:Zd {rows:=(R:Int),cols:=(C:Int),cells:=cells}=true):ZfI {rows:=(R:Int),cols:=(C:Int),cells:=cells}=ecN C R C 0 0 (Za8 cells C R):=by unfold ZfI;rw[hB];rfl
theorem ZnS (a:Option Addr) (n cp C R:Nat) (m:List Int) (w:World) (h:RdI w S a n cp m) (hl:m.length=R*C) (hm:NumL m) (hR:R<=24) (hC:C<=24):
  Calls JG 107 #[.agg #[Yv Yi R,Yv Yi C, .slice a n cp]] w fun e w'=> ∃ x y sa sn sc pa pc,e= .returned (.tuple #[.agg #[Yv Yi x,Yv Yi y, .slice sa sn sc], .slice pa (ecT {rows:=(R:Int),cols:=(C:Int),cells:=m}) pc, .bool (Zia {rows:=(R:Int),cols:=(C:Int),cells:=m})])/\Grow w w':=by
 have cj:m.length=n:=h.len;have dt:R*C<=24*24:=Nat.mul_le_mul hR hC;have Hn:=hid (show R*C=n by rw[←cj,hl]);have dv:n<=576:=I
 have bb:=Zay hR hC hl hm;have HB:=hid bb;obtain ⟨w2,bw,ck,bM,bZ, -⟩:=al2 w #[Yv Yi (R:Int),Yv Yi (C:Int), .slice a n cp] 37 #[Yv Yi 0,Yv Yi 0, .slice none 0 0] 37;have bx:VM w2 S (.agg #[Yv Yi (R:Int),Yv Yi (C:Int), .slice a n cp]) {rows:=(R:Int),cols:=(C:Int),cells:=m}:=⟨a,n,cp,rfl,h.grow ck,χ,χ⟩;have cl:bdM {rows:=(R:Int),cols:=(C:Int),cells:=m}<=1048576:=Al
 have dw:=hid bw;have e3:w2.heap.size=w.heap.size+1+1:=by rw[bw];simp
 clear bw;obtain ⟨P,ab⟩:=eX (ecN C R C 0 0 (Za8 m C R));have dx:=hid (fun h0:P=none=>Zpm (m:={rows:=(R:Int),cols:=(C:Int),cells:=m}) (by rw[ZnH bb, ←ab];exact h0));have dy:=hid (fun (t:Nat) (x:List Int) (h0:P=some (t,x))=>Zp7 (m:={rows:=(R:Int),cols:=(C:Int),cells:=m}) (t:=t) (x:=x) (by rw[ZnH bb, ←ab];exact h0));generalize ecT {rows:=(R:Int),cols:=(C:Int),cells:=m}=eT at *;generalize Zia {rows:=(R:Int),cols:=(C:Int),cells:=m}=eO at *;clear dt cj h bb;go_enter Q9,QA;go_wp2_with fail;rw[←dw.out];refine (ZG bx I).mono ?_;rintro e w3 ⟨rfl,an⟩;rw[HB.out];have bz:=bM.grow an;have bj:=bx.grow an;obtain ⟨⟨a0,a1,a2⟩, -⟩:=bz.three;have dz:=bz.lt;go_wp2_with fail;refine (Zbx bj cl).mono ?_;rintro e D ⟨rv,rfl,d0,b0⟩;obtain ⟨b,l,O,rfl,oR,rR,fR,i1,i2⟩:=d0;simp only at oR rR i1 i2;have bk:m.length=l:=by simpa [ints] using oR.len
 have d1:l=n:=by rw[←bk,hl];exact Hn.out
 clear bk;subst d1;obtain ⟨w5,bc,b1,ao, -, -⟩:=al2 D #[Yv Yi (R:Int),Yv Yi (C:Int), .slice b l O] 37 #[] 3;have d2:Own w5 3 1 (some ⟨D.heap.size+1,0,none⟩) 0 0 []:=by rw[bc];exact Own.freshAt (cs:= #[]) Θ Γ rfl
 have cm:=oR.grow b1;have e5:=an.size;have hlo: ∀ g,blk b=some g->w2.heap.size<=g:=fun g hg=>Cw
 have hlt4: ∀ g,blk b=some g->g<D.heap.size:=fun g hg=>(fR g hg).2;have e6:=b0.size;have e7:w5.heap.size=D.heap.size+1+1:=by rw[bc];simp
 have cn:=((bZ.grow an).grow b0).grow b1;have bl:=((ck.trans an).trans b0).trans b1;have d3:=hid bc;have Hm:=hid hm;have d4:=hid hl;clear bc oR bx bj cl bZ bM bz a0 a1 a2 hm hl;go_wp2;rw[←d3.out];go_loopw [7] (fun q wr=>Keep (fun g=>blk b≠some g/\g<=D.heap.size+1) w5 wr/\ ∃ i:Nat,i<=R/\q=Yv Yi i/\Own wr 3 1 b l O (ints (Za8 m C i))) (fun q _=>R-(intOf q).toNat);case atStart=>exact ⟨Keep.refl _ _,0,JI _,rfl,cm⟩
 case round=>
  clear cm;obtain ⟨wp,rfl⟩:=eX wr;obtain ⟨ap,i,hi,rfl,E⟩:=hrel;have ah:=ao.keep ap ⟨fun e=>CR,I⟩;obtain ⟨⟨F,H,J⟩, -⟩:=ah.three;have T:(Za8 m C i).length=R*C:=by rw[Zfn];exact d4.out
  have b2:=ZjJ (C:=C) Hm.out i;by_cases o:i<R
  ·have aq:=ZcJ T o;rw[T,Hn.out] at aq;have b3:=hid (show Za8 m C (i+1)=Zb8 (Za8 m C i) C i from rfl);generalize Za8 m C i=z at *;go_wp2_with fail;refine (ZfX b l O C i (R:Int) z _ E aq I I).mono ?_;rintro e w6 ⟨a1,rfl,hA,co⟩;have d5:=E.grow co;go_wp2_with fail;refine (ZpO b a1 l O C i R z _ d5 T o b2 hR hC hA).mono ?_;rintro e w7 ⟨rfl,cq,d6⟩;rw[←b3.out] at cq;have bd:=(ap.trans co.any).trans (d6.mono fun g _ (hg:blk b≠some g/\g<=D.heap.size+1)=>hg.1);clear F H J;go_wp2;go_roundw;case rel=>exact ⟨bd,i+1,I,Δ,cq⟩
   case measure=>exact FN
  ·obtain rfl:R=i:=I;have cr:=d2.keep ap (fun g hg _=>⟨fun e=>by simp at hg;have:=hlt4 g e;omega,κ⟩);have ct:Keep (fun g=>blk b≠some g/\g<=D.heap.size) w5 wp:=ap.mono fun g _ hg=>⟨hg.1,I⟩;go_wp2;clear F H J ap ah;go_loopw [6,8] (fun pv jv wr=>Keep (fun g=>blk b≠some g/\g<=D.heap.size) w5 wr/\ ∃ (t j pc:Nat) (x L:List Int) (pa:Option Addr),t<=R/\j<=C/\pv= .slice pa t pc/\jv=Yv Yi j/\Own wr 3 1 pa t pc (ints L)/\(∀ g,blk pa=some g->D.heap.size<g)/\Own wr 3 1 b l O (ints x)/\x.length=R*C/\NumL x/\ecN C R (C-j) j t x=P) (fun _ jv _=>C-(intOf jv).toNat);case atStart=>exact ⟨ct,0,0,0,_,[],_,JI _,JI _,rfl,rfl,by simpa [ints] using cr,(fun g hg=>κ),E,T,b2,ab.symm⟩
   case round=>
    clear E T b2 ab cr ct;obtain ⟨wo,rfl⟩:=eX wr;obtain ⟨hK,t,j,pc,x,L,pa,ht,hj,rfl,rfl,hP,M,E,cx,hx,cy⟩:=hrel;have ai:=hid cy;have ar:=hid cx;clear cy cx;have ah:=ao.keep hK ⟨fun e=>CR,JM _⟩;obtain ⟨⟨F,H,J⟩, -⟩:=ah.three;by_cases aj:j<C
    ·obtain ⟨K,av⟩:=eX (elK x C j (R-t) t);have cz:=hid (show K=R->ecN C R (C-(j+1)) (j+1) t x=P from fun e=>by
      by_cases r:t<R
      ·rw[←ai.out,show C-j=(C-(j+1))+1 by omega,ZoD r av e]
      ·rw[←ai.out,Zkr r,Zkr r])
     have bm:=hid (show t<R->K≠R->Zaf C j t R (Zbs x C t K)=none->P=none from fun h0 e h1=>by rw[←ai.out,show C-j=(C-(j+1))+1 by omega,Zoh h0 av e h1]);have bn:=hid (show ∀ y,t<R->K≠R->Zaf C j t R (Zbs x C t K)=some y->ecN C R (C-(j+1)) (j+1) (t+1) y=P from fun y h0 e h1=>by rw[←ai.out,show C-j=(C-(j+1))+1 by omega,ZnY h0 av e h1]);go_wp2;go_loopw [10] (fun q u=>Grow wo u/\ ∃ k:Nat,t<=k/\k<=R/\q=Yv Yi k/\elK x C j (R-k) k=K) (fun q _=>R-(intOf q).toNat);case atStart=>exact ⟨JH _,t,JM _,I,rfl,av.symm⟩
     case round=>
      clear av;obtain ⟨u,rfl⟩:=eX wr;obtain ⟨s,k,e8,hk,rfl,c0⟩:=hrel;have be:=hid c0;clear c0;have bf:=E.grow s;have ak:=hP.grow s;have f:=ah.grow s;have al:=hK.trans s.any;clear F H J;obtain ⟨⟨F,H,J⟩, -⟩:=f.three;have A:=bf.rdI (S:=fun _=>True) (fun _ _=>trivial) (Zp hx);by_cases b4:k<R
      ·have r:t<R:=I;have d7:k*C+j<l:=(by rw[←Hn.out];exact Zf aj b4);have N:x[k*C+j]? =some (cell x C k j):=ZU (by rw[ar.out];exact Zf aj b4);go_wp2_with fail;refine (ZaA b l O C k j _ (R:Int) _ x _ A rfl N I I I I).mono ?_;rintro e w8 ⟨rfl,aw⟩;have ax:=al.trans aw.any;have b5:=bf.grow aw;have b6:=ak.grow aw;have c1:=f.grow aw;have bo:=s.trans aw;clear F H J N d7 A;by_cases ay:cell x C k j=0
       ·have HE:=hid (show elK x C j (R-(k+1)) (k+1)=K by rw[←be.out,show R-k=(R-(k+1))+1 by omega,Zun ay]);rw[ay];go_wp2;go_roundw;case rel=>exact ⟨bo,k+1,I,I,Δ,HE.out⟩
        case measure=>exact FN
       ·have b7:K=k:=(by rw[←be.out,ZuX ay]);have e0:(cell x C k j==0)=false:=(by simp[ay]);have d8:=hid (show Zaf C j t R (Zbs x C t k)=none->P=none by rw[←b7];exact bm.out r I);have d9:=hid (show ∀ y,Zaf C j t R (Zbs x C t k)=some y->ecN C R (C-(j+1)) (j+1) (t+1) y=P by rw[←b7];exact fun y=>bn.out y r I);have e9: ¬ ((R:Int)<=(k:Int)):=I;obtain ⟨⟨F,H,J⟩, -⟩:=c1.three;clear b7 bm bn cz be ay ai
        go_upto_if 63 with fail
        go_cut [] from 35 to 133 (fun wx=>Keep (fun g=>blk b≠some g/\g<=D.heap.size) w5 wx/\Own wx 3 1 pa t pc (ints L)/\Own wx 3 1 b l O (ints (Zbs x C t k)))
        case first=>
         by_cases az:k=t
         ·have q1:((k:Int)!=(t:Int))=false:=(by simp[az]);have He:=hid (show Zbs x C t k=x by unfold Zbs;rw[if_pos az]);clear az;go_wp2
          go_meet
          exact ⟨ax,b6,by rw[He.out];exact b5⟩
         ·have q1:((k:Int)!=(t:Int))=true:=Ψ;have He:=hid (show Zbs x C t k=swR x C k t by unfold Zbs;rw[if_neg az]);go_wp2_with fail;refine (Zcp b l O C k t R 0 x _ b5 ar.out b4 r az I I I).mono ?_;rintro e w9 ⟨rfl,V,bg⟩;clear F H J;go_wp2
          go_meet
          exact ⟨ax.trans (bg.mono fun g _ (hg:blk b≠some g/\g<=D.heap.size)=>hg.1),b6.keep bg (fun g hg _ e=>by have h1:=M g hg;have h2:=hlt4 g e;omega),by rw[He.out];exact V⟩
        case rest=>
         clear ax b5 b6 F H J c1 bo al bf ak s E hP ah hK f;obtain ⟨b8,ea,c2⟩:=hcut;have c3:NumL (Zbs x C t k):=by
          unfold Zbs;split
          ·exact hx
          ·exact Zda hx C
         have bp:=hid (show (Zbs x C t k).length=R*C by rw[Zs3];exact ar.out);generalize Zbs x C t k=y at *;obtain ⟨wq,rfl⟩:=eX wc;have c4:=ao.keep b8 ⟨fun e=>CR,JM _⟩;obtain ⟨⟨F,H,J⟩, -⟩:=c4.three;clear hx ar;go_wp2;clear F H J c4;go_loopw [11] (fun q u=>Keep (fun g=>blk b≠some g) wq u/\ ∃ (i:Nat) (z:List Int),i<=R/\q=Yv Yi i/\Own u 3 1 b l O (ints z)/\z.length=R*C/\NumL z/\Zaf C j t i y=some z) (fun q _=>R-(intOf q).toNat);case atStart=>exact ⟨Keep.refl _ _,0,y,JI _,rfl,c2,bp.out,c3,rfl⟩
         case round=>
          clear c2 c3 bp;obtain ⟨u0,rfl⟩:=eX wr;obtain ⟨W,i,z,hi,rfl,E,T,hz,c5⟩:=hrel;have B:=hid T;have a3:=hid c5;clear T c5;have b9:Keep (fun g=>blk b≠some g/\g<=D.heap.size) w5 u0:=b8.trans (W.mono fun g _ (hg:blk b≠some g/\g<=D.heap.size)=>hg.1);have f:=ao.keep b9 ⟨fun e=>CR,JM _⟩;obtain ⟨⟨F,H,J⟩, -⟩:=f.three;by_cases o:i<R
          ·have N:z[i*C+j]? =some (cell z C i j):=ZU (by rw[B.out];exact Zf aj o);have ca:i*C+j<l:=(by rw[←Hn.out];exact Zf aj o);have A:=E.rdI (S:=fun _=>True) (fun _ _=>trivial) (Zp hz);have cb:=Zk hz C i j;obtain ⟨X,hX⟩:=eX (cell z C i j);rw[←hX] at N cb;have HX:=hid hX;clear hX;go_wp2_with fail;refine (ZaA b l O C i j _ (R:Int) _ z _ A rfl N I I I I).mono ?_;rintro e w9 ⟨rfl,a4⟩;have V:=E.grow a4;have ad:=W.trans a4.any;have c6:=f.grow a4;have c7:=A.grow a4;clear F H J f E W A N ca b9;by_cases hgo:i=t\/X=0
           ·have HE:=hid (Zsa a3.out (show i=t\/cell z C i j=0 by rw[←HX.out];exact hgo));by_cases bh:i=t
            ·have q1:((i:Int)==(t:Int))=true:=(by simp[bh]);clear hgo;go_wp2;go_roundw;case rel=>exact ⟨ad,i+1,z,I,Δ,V,B.out,hz,HE.out⟩
             case measure=>exact FN
            ·have q1:((i:Int)==(t:Int))=false:=Ψ;have q2:(X==0)=true:=(by simp[hgo.resolve_left bh]);clear hgo;go_wp2;go_roundw;case rel=>exact ⟨ad,i+1,z,I,Δ,V,B.out,hz,HE.out⟩
             case measure=>exact FN
           ·have bh:i≠t:=fun e=>hgo (.inl e);have c8:X≠0:=fun e=>hgo (.inr e);have q1:((i:Int)==(t:Int))=false:=Ψ;have q2:(X==0)=false:=(by simp[c8]);have eb:=hid (show Zd3 z C i t j=false->Zaf C j t (i+1) y=none from ZuY a3.out Fp);have da:=hid (show Zd3 z C i t j=true->Zaf C j t (i+1) y=some (Zdj z C i t j) from ZtL a3.out Fp);have Z:z[t*C+j]? =some (cell z C t j):=ZU (by rw[B.out];exact Zf aj r);have db:t*C+j<l:=(by rw[←Hn.out];exact Zf aj r);have dc:=Zk hz C t j;have fa:=Zvm (C:=C) (i:=i) (t:=t) (j:=j) hz;have fb:elG z C i t j≠0:=ZuK (by rw[←HX.out];exact c8);have HG:=hid (show gI X (cell z C t j)=elG z C i t j by rw[HX.out];rfl);have HW:=hid (show ∀ k,elW z C i t j k=(cell z C t j).tdiv (elG z C i t j)*cell z C i k-X.tdiv (elG z C i t j)*cell z C t k from fun k=>by rw[HX.out];rfl);have ec:=Zfu (y:=elG z C i t j) dc;have ed:=Zfu (y:=elG z C i t j) cb;clear hgo HX a3;generalize elG z C i t j=G at *;generalize cell z C t j=Y at *;obtain ⟨⟨F,H,J⟩, -⟩:=c6.three;go_wp2_with fail;refine (ZaA b l O C t j _ (R:Int) _ z _ c7 rfl Z I I I I).mono ?_;rintro e ee ⟨rfl,ae⟩;go_wp2_with fail;refine (ZsR X Y _ cb dc).mono ?_;rintro e ef ⟨rfl,af⟩;rw[HG.out];have a5:=ae.trans af;have dd:=V.grow a5;have bd:=ad.trans a5.any;clear F H J c6 V ad c7 Z db ae af;go_wp2;go_loopw [15] (fun q u=>Keep (fun g=>blk b≠some g) wq u/\ ∃ c:Nat,c<=C/\q=Yv Yi c/\Own u 3 1 b l O (ints (Zz (elW z C i t j) (i*C) c z))/\ ∀ c',c'<c->Zi (elW z C i t j c')=true) (fun q _=>C-(intOf q).toNat);case atStart=>exact ⟨bd,0,JI _,rfl,dd,fun c' h0=>I⟩
            case round=>
             clear bd dd a5 a4;obtain ⟨u,rfl⟩:=eX wr;obtain ⟨W,c,hc,rfl,E,bq⟩:=hrel;have a6:=hid bq;clear bq;have al:Keep (fun g=>blk b≠some g/\g<=D.heap.size) w5 u:=b8.trans (W.mono fun g _ (hg:blk b≠some g/\g<=D.heap.size)=>hg.1);have f:=ao.keep al ⟨fun e=>CR,JM _⟩;obtain ⟨⟨F,H,J⟩, -⟩:=f.three;by_cases am:c<C
             ·have de:NumL (Zz (elW z C i t j) (i*C) c z):=fun v hv=>by
               rcases Zee hv with hv|⟨k,hk,rfl⟩
               ·exact hz v hv
               ·exact ZB.1 (a6.out k hk)
              have cc:(Zz (elW z C i t j) (i*C) c z).length=R*C:=(by rw[ZM];exact B.out);have a7:cell (Zz (elW z C i t j) (i*C) c z) C i c=cell z C i c:=Zgu B.out o hc am (.inr (JM _));have ag:cell (Zz (elW z C i t j) (i*C) c z) C t c=cell z C t c:=Zgu B.out o hc am (.inl (fun e=>bh e.symm));have N:(Zz (elW z C i t j) (i*C) c z)[i*C+c]? =some (cell z C i c):=(by rw[←a7];exact ZU (by rw[cc];exact Zf am o));have Z:(Zz (elW z C i t j) (i*C) c z)[t*C+c]? =some (cell z C t c):=(by rw[←ag];exact ZU (by rw[cc];exact Zf am r));have ca:i*C+c<l:=(by rw[←Hn.out];exact Zf am o);have hv:=Zk hz C i c;have eg:=Zk hz C t c;have fc:=Ze7 ec hv;have fd:=Ze7 ed eg;have br:=hid (show Zz (elW z C i t j) (i*C) (c+1) z=(Zz (elW z C i t j) (i*C) c z).set (i*C+c) (Y.tdiv G*cell z C i c-X.tdiv G*cell z C t c) by rw[←HW.out];rfl);have df:=hid (HW.out c);have A:=E.rdI (S:=fun _=>True) (fun _ _=>trivial) (Zp de);clear a7 ag cc de;generalize eh:cell z C i c=cv at *;generalize ei:cell z C t c=cw at *;clear eh ei;generalize Zz (elW z C i t j) (i*C) c z=zz at *;go_wp2;refine ZaH [([0,1,2,3,4,5,8,9,10,11,12,13],some 6),([7],some 14),([15,16,17],none)] ?_;refine ZR ?_;intro K hK;refine (ZaA b l O C i c _ (R:Int) _ zz _ (A.grow (JH _).drew) rfl N I I I I).mono ?_;rintro e ee ⟨rfl,ae⟩;have s:=(JH u).drew.trans ae;go_wp2_with fail;refine hK _ _ (s) ?_;clear hK K;refine ZR ?_;intro K hK;refine (ZaA b l O C t c _ (R:Int) _ zz _ (A.grow s) rfl Z I I I I).mono ?_;rintro e ef ⟨rfl,af⟩;have a8:=s.trans af;go_wp2_with fail;refine hK _ _ (a8) ?_;clear hK K;refine Zh ?_;refine Ze ?_;have ej:=E.grow a8;have ek:=f.grow a8;clear F H J f E A N Z;obtain ⟨⟨F,H,J⟩, -⟩:=ek.three;obtain ⟨v,el⟩: ∃ v,Y.tdiv G*cv-X.tdiv G*cw=v:=⟨_,rfl⟩;have cd:=hid el.symm;have fe: -400000000000000000<=v/\v<=400000000000000000:=I;go_wp2_with fail;refine (Z0 _ _).mono ?_;rintro e _ ⟨rfl,rfl⟩;cases dg:Zi v with
              |false=>
               have HF:=hid (dx.out (d8.out (by
                have h1:Zd3 z C i t j=false:=(by rw[Bool.eq_false_iff];intro e;have:=ZiB.1 e c am;rw[df.out, ←cd.out,dg] at this;cases this);have h2:=Zml (eb.out h1) (d:=R-(i+1))
                rwa [show i+1+(R-(i+1))=R by omega] at h2)))
               have dh:=al.trans a8.any;have em:=cn.keep dh ⟨fun e=>ε,I⟩;have aa:=em.grow ((JH _).alloc #[] 3);have di:=Lx (S:=fun g=>blk b≠some g/\g<=D.heap.size) bl dh (fun g hg=>⟨fun e=>ε,I⟩);have ce:=di.alloc #[] 3;obtain ⟨⟨z0,z1,z2⟩,g0,g1,g2⟩:=aa.three;have dj:=aa.lt;have cf:w.heap.size<=w.heap.size+1:=I;have en:=((aa.set 0 (Yv Yi 0)).set 1 (Yv Yi 0)).set 2 (.slice none 0 0);have dk:=((ce.setCell (p:=⟨w.heap.size+1,0,none⟩) cf (Yv Yi 0)).setCell (p:=⟨w.heap.size+1,1,none⟩) cf (Yv Yi 0)).setCell (p:=⟨w.heap.size+1,2,none⟩) cf (.slice none 0 0);go_wp2;exact ZfQ Zc rfl rfl rfl en ⟨_,_,_,_,_,_,_,EW,dk⟩
              |true=>
               have b3:=hid (show ∀ c',c'<c+1->Zi (elW z C i t j c')=true from fun c' ff=>by
                by_cases e:c'=c
                ·subst e;rw[df.out, ←cd.out];exact dg
                ·exact a6.out c' I)
               rw[←cd.out] at br;go_wp2_with fail;refine (Zjp b l O C i c _ (R:Int) _ _ _ ej rfl ca I I I I).mono ?_;rintro e fg ⟨rfl,bs,dl⟩;rw[←br.out] at bs;have dm:=(W.trans a8.any).trans dl;clear F H J;go_wp2;go_roundw;case rel=>exact ⟨dm,c+1,I,Δ,bs,b3.out⟩
               case measure=>exact FN
             ·have dn:c=C:=I;have bi:Zd3 z C i t j=true:=ZiB.2 fun k hk=>a6.out k I;have HE:=hid (da.out bi);have eo:(Zdj z C i t j).length=R*C:=(by rw[Zmt];exact B.out);have ep:=Zrn hz bi;have cg:(Zz (elW z C i t j) (i*C) C z).length=R*C:=(by rw[ZM];exact B.out);have eq:=Zpq hz bi;have er:=hid (show Zdj z C i t j=Zb8 (Zz (elW z C i t j) (i*C) C z) C i from rfl);have aq:=ZcJ cg o;rw[cg,Hn.out] at aq;rw[dn] at E;clear bi dn;generalize Zz (elW z C i t j) (i*C) C z=zz at *;go_wp2_with fail;refine (ZfX b l O C i (R:Int) zz _ E aq I I).mono ?_;rintro e fh ⟨a1,rfl,hA,bt⟩;go_wp2_with fail;refine (ZpO b a1 l O C i R zz _ (E.grow bt) cg o eq hR hC hA).mono ?_;rintro e fi ⟨rfl,bv,dp⟩;rw[←er.out] at bv;have dq:=(W.trans bt.any).trans dp;clear F H J;go_wp2;go_roundw;case rel=>exact ⟨dq,i+1,_,I,Δ,bv,eo,ep,HE.out⟩
              case measure=>exact FN
          ·have es:i=R:=I;have et:=hid (d9.out z (by rw[←es];exact a3.out));have ak:=ea.keep W (fun g hg _ e=>by have h1:=M g hg;have h2:=hlt4 g e;omega);have ch:=(JH u0).alloc #[Yv Yi (j:Int)] 3;have dr:=ak.grow ch;have ds:=E.grow ch;have e4:D.heap.size<u0.heap.size:=(by have:=f.lt;omega);clear ak E;go_wp2_with (at_builtin;refine ZD rfl (.tmp 130) (.tmp 132) _ rfl T_ints rfl dr rfl (Row.bAt6 (S:=fun _=>True) 1 rfl Γ rfl (fun _=>trivial)) γ I Γ ?_;intro a9 c9 w9 ba);have ew:Own w9 3 1 a9 (t+1) c9 (ints (L++[(j:Int)])):=(by have:=ba.own;simpa [ints] using this);have V:=ds.keep ba.keep (fun g hg _ e=>by have h1:=M g e;have h2:=hlt4 g hg;omega);have bg:Keep (fun g=>blk b≠some g/\g<=D.heap.size) w5 w9:=(b9.trans ch.any).trans (ba.keep.mono fun g _ hg e=>by have h1:=M g e;have h2:=hg.2;omega);have ci: ∀ g,blk a9=some g->D.heap.size<g:=fun g hg=>by
            rcases ba.new with e|⟨q,e,hq⟩
            ·exact M g (e▸hg)
            ·rw[e] at hg;obtain rfl:=Option.some.inj hg;simp at hq;omega
           clear ba dr ds;go_wp2;go_roundw;case rel=>exact ⟨bg,t+1,j+1,c9,_,L++[(j:Int)],a9,I,I,Δ,Δ,ew,ci,V,B.out,hz,et.out⟩
           case measure=>exact FN
      ·have ex:k=R:=I;have ey:K=R:=(by rw[←be.out,ex,Nat.sub_self];rfl);have HS:=hid (cz.out ey);have e1:(R:Int)<=(k:Int):=I;go_wp2;go_roundw;case rel=>exact ⟨al,t,j+1,pc,x,L,pa,I,I,rfl,Δ,ak,M,bf,ar.out,hx,HS.out⟩
       case measure=>exact FN
    ·have HF:=hid (dy.out t x (by rw[←ai.out,show C-j=0 by omega];rfl));have aa:=cn.keep hK ⟨fun e=>ε,I⟩;have ce:Grow w wo:=Lx (S:=fun g=>blk b≠some g/\g<=D.heap.size) bl hK (fun g hg=>⟨fun e=>ε,I⟩);obtain ⟨⟨z0,z1,z2⟩,g0,g1,g2⟩:=aa.three;have dj:=aa.lt;have ez:Keep (fun q=>q≠w.heap.size+1) wo (((wo.setCell ⟨w.heap.size+1,0,none⟩ (Yv Yi (R:Int))).setCell ⟨w.heap.size+1,1,none⟩ (Yv Yi (C:Int))).setCell ⟨w.heap.size+1,2,none⟩ (.slice b l O)):=
      kS
     have e2:=ce.keep ez (fun q hq=>I);go_wp2;exact ZfQ Zc rfl rfl rfl (((aa.set 0 _).set 1 _).set 2 _) ⟨_,_,_,_,_,pa,pc,EW,e2⟩
def ZrG (m:Mat) (w:World) (e:Ending) (w':World):Prop:= ∃ x y sa sn sc pa pc,e= .returned (.tuple #[.agg #[Yv Yi x,Yv Yi y, .slice sa sn sc], .slice pa (ecT m) pc, .bool (Zia m)])/\Grow w w'
theorem ZqZ (h:VM w S v m) (hb:bdM m<=1048576):Calls JG 107 #[v] w (ZrG m w):=by
 have s:=h;obtain ⟨a,n,c,rfl,h, -, -⟩:=h;cases r:Zd m with
 |true=>obtain ⟨R,C,i,j,B,D,z,b⟩:=Zl r;obtain ⟨G,H,d⟩:=m;simp only at i j z b h;subst i;subst j;exact ZnS a n c C R d w h z b B D
 |false=>
  have HF:=hid (Zpm (Zvv r));have E:=hid r;clear r;obtain ⟨J,k,l,L,F, -⟩:=al2 w #[Yv Yi m.rows,Yv Yi m.cols, .slice a n c] 37 #[Yv Yi 0,Yv Yi 0, .slice none 0 0] 37;have t:=hid k;clear k;unfold ZrG;go_enter Q9,QA;go_wp2_with fail;rw[←t.out];refine (ZG (s.grow l) I).mono ?_;rintro e M ⟨rfl,o⟩;rw[E.out];have f:=F.grow (o.alloc #[] 3);have x:=(l.trans o).alloc #[] 3;obtain ⟨⟨N,O,P⟩,T,V,W⟩:=f.three;have A:=f.lt;have g:w.heap.size<=w.heap.size+1:=I
  have y:=((f.set 0 (Yv Yi 0)).set 1 (Yv Yi 0)).set 2 (.slice none 0 0);have q:=((x.setCell (p:=⟨w.heap.size+1,0,none⟩) g (Yv Yi 0)).setCell (p:=⟨w.heap.size+1,1,none⟩) g (Yv Yi 0)).setCell (p:=⟨w.heap.size+1,2,none⟩) g (.slice none 0 0);go_wp2;exact ZfQ Zc rfl rfl rfl y ⟨_,_,_,_,_,_,_,EW,q⟩
theorem ZrO (h:VM w S v m) (hb:bdM m<=1048576):Calls JG 60 #[v] w fun e w'=>e= .returned (.tuple #[Yv Yi ((ecT m:Nat):Int), .bool (Zia m)])/\Grow w w':=by
 have d:=h;obtain ⟨a,n,c,rfl,h, -, -⟩:=h;have b:=(JH w).alloc #[Yv Yi m.rows,Yv Yi m.cols, .slice a n c] 37;have g:=hid (fun i (j:Grow w i)=>ZqZ (d.grow j) hb);go_enter Tryz.func60,Tryz.ntmps60;go_wp2_with fail;refine (g.out _ b).mono ?_;rintro e k ⟨x,y,l,o,p,q,r,rfl,f⟩;go_wp2
 go_ret2
 exact ⟨rfl,(b.trans f).alloc _ _⟩

end Go.Proofs.YtgjefeiddfjjnaaGreatDoor
