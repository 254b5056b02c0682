/- AddMatrices of the reference, for all arguments. -/
import Derived.Test.YtgeoehnbpkediaaGreatZOpF
import Derived.Test.YtgeoehnbpkediaaGreatZRedR
import Derived.Test.YtgeoehnbpkediaaGreatZEvM
set_option maxHeartbeats 8000000
set_option maxRecDepth 100000
namespace Go.Proofs.YtgeoehnbpkediaaGreat
open Go.RowKit
open Lib (hid)
open Go.Value renaming int->Yv
open Go.IntKind renaming i64->Yi
variable {A B m:Mat} {S T:Nat->Prop} {r:Rs} {u v:Value} {w:World}
theorem Zpv (h:VM w S u A) (h':VM w T v B) (hb:bdM A<=1048576) (hb':bdM B<=1048576) (hF:Zer A B=false):
  Calls Tryz.prog 90 #[u,v] w fun e w'=> ∃ r,e= .returned (.tuple #[r, .bool (ZeG A B)])/\OM w' (New w w') r (amB A B)/\Grow w w':=by
 have vA:=h;have vB:=h';obtain ⟨aa,na,ca,rfl, -⟩:=h;obtain ⟨ab,nb,cb,rfl, -⟩:=h';have Hn:=hid (Zm2 hF);obtain ⟨w3,hw3,hG3,bA,bB,bZ, -⟩:=al3 w #[Yv Yi A.rows,Yv Yi A.cols, .slice aa na ca] 28 #[Yv Yi B.rows,Yv Yi B.cols, .slice ab nb cb] 28 #[Yv Yi 0,Yv Yi 0, .slice none 0 0] 28;have Hw3:=hid hw3;clear hw3;have HF:=hid (show (Zg A&&(Zg B&&((A.rows==B.rows)&&(A.cols==B.cols))))=false from hF);clear hF;go_enter Tryz.func90,Tryz.ntmps90;go_wp2_with fail;rw[←Hw3.out];refine (ZP (vA.grow hG3) (by omega)).mono ?_;rintro e w4 ⟨rfl,hG4⟩;replace bA:=bA.grow hG4;replace bB:=bB.grow hG4;replace bZ:=bZ.grow hG4;have hG:=hG3.trans hG4;obtain ⟨⟨a0,a1,a2⟩, -⟩:=bA.three;obtain ⟨⟨b0,b1,b2⟩, -⟩:=bB.three;have hltA:=bA.lt;have hltB:=bB.lt;cases hA:Zg A with
 |false=>
  clear hA;have hle:w.heap.size<=w.heap.size+1+1:=by omega
  obtain ⟨⟨z0,z1,z2⟩,g0,g1,g2⟩:=bZ.three;have hltZ:=bZ.lt;go_wp2;exact Zf Zb rfl rfl rfl (((bZ.set 0 _).set 1 _).set 2 _) ⟨_,by rw[Hn.out.1];rfl,by rw[Hn.out.2];exact OM.zero,((hG.setCell hle _).setCell hle _).setCell hle _⟩
 |true=>
  rw[hA] at HF;clear hA;go_wp2_with fail;refine (ZP (vB.grow hG) (by omega)).mono ?_;rintro e w5 ⟨rfl,hG5⟩;clear a0 a1 a2 b0 b1 b2 hltA hltB;replace bA:=bA.grow hG5;replace bB:=bB.grow hG5;replace bZ:=bZ.grow hG5;replace hG:=hG.trans hG5;obtain ⟨⟨a0,a1,a2⟩, -⟩:=bA.three;obtain ⟨⟨b0,b1,b2⟩, -⟩:=bB.three;have hltA:=bA.lt;have hltB:=bB.lt;cases hB:Zg B with
  |false=>clear hB;have hle:w.heap.size<=w.heap.size+1+1:=(by omega);obtain ⟨⟨z0,z1,z2⟩,g0,g1,g2⟩:=bZ.three;have hltZ:=bZ.lt;go_wp2;exact Zf Zb rfl rfl rfl (((bZ.set 0 _).set 1 _).set 2 _) ⟨_,by rw[Hn.out.1];rfl,by rw[Hn.out.2];exact OM.zero,((hG.setCell hle _).setCell hle _).setCell hle _⟩
  |true=>
   rw[hB] at HF;clear hB;by_cases hr:A.rows=B.rows
   ·have q1:(A.rows !=B.rows)=false:=(by simp[hr]);have q2:(A.cols !=B.cols)=true:=(by have:=HF.out;simp[hr] at this;simp[this]);clear hr HF;have hle:w.heap.size<=w.heap.size+1+1:=(by omega);obtain ⟨⟨z0,z1,z2⟩,g0,g1,g2⟩:=bZ.three;have hltZ:=bZ.lt;go_wp2;exact Zf Zb rfl rfl rfl (((bZ.set 0 _).set 1 _).set 2 _) ⟨_,by rw[Hn.out.1];rfl,by rw[Hn.out.2];exact OM.zero,((hG.setCell hle _).setCell hle _).setCell hle _⟩
   ·have q1:(A.rows !=B.rows)=true:=(by simp[hr]);clear hr HF;have hle:w.heap.size<=w.heap.size+1+1:=(by omega);obtain ⟨⟨z0,z1,z2⟩,g0,g1,g2⟩:=bZ.three;have hltZ:=bZ.lt;go_wp2;exact Zf Zb rfl rfl rfl (((bZ.set 0 _).set 1 _).set 2 _) ⟨_,by rw[Hn.out.1];rfl,by rw[Hn.out.2];exact OM.zero,((hG.setCell hle _).setCell hle _).setCell hle _⟩
theorem ZoE {aa ab:Option Addr} {na nb ca cb R C:Nat} {xs ys:List Int} (hA:RdI w S aa na ca xs) (hB:RdI w T ab nb cb ys) (nx:NumL xs) (ny:NumL ys) (hR:R<=24) (hC:C<=24) (hlX:xs.length=R*C) (hlY:ys.length=R*C):
  Calls Tryz.prog 90 #[.agg #[Yv Yi (R:Int),Yv Yi (C:Int), .slice aa na ca], .agg #[Yv Yi (R:Int),Yv Yi (C:Int), .slice ab nb cb]] w fun e w'=> ∃ r,e= .returned (.tuple #[r, .bool (Zg {rows:=(R:Int),cols:=(C:Int),cells:=amL xs ys})])/\OM w' (New w w') r (okM {rows:=(R:Int),cols:=(C:Int),cells:=amL xs ys})/\Grow w w':=by
 have hRC:R*C<=24*24:=Nat.mul_le_mul hR hC;have hlx:=hA.len;have hly:=hB.len;have HMA:=hid (ZaG hR hC hlX nx);have HMB:=hid (ZaG hR hC hlY ny);obtain ⟨K,hKe⟩: ∃ K,K=na:=⟨_,rfl⟩;obtain rfl:nb=K:=by omega
 obtain rfl:na=nb:=by omega
 clear hKe;have hna576:na<=576:=by omega
 have vA:VM w S (.agg #[Yv Yi (R:Int),Yv Yi (C:Int), .slice aa na ca]) {rows:=(R:Int),cols:=(C:Int),cells:=xs}:=⟨aa,na,ca,rfl,hA,by show I64 (R:Int);unfold I64;omega,by show I64 (C:Int);unfold I64;omega⟩;have vB:VM w T (.agg #[Yv Yi (R:Int),Yv Yi (C:Int), .slice ab na cb]) {rows:=(R:Int),cols:=(C:Int),cells:=ys}:=⟨ab,na,cb,rfl,hB,by show I64 (R:Int);unfold I64;omega,by show I64 (C:Int);unfold I64;omega⟩;have hbA:bdM {rows:=(R:Int),cols:=(C:Int),cells:=xs}<=1048576:=by unfold bdM;simp only;omega
 have hbB:bdM {rows:=(R:Int),cols:=(C:Int),cells:=ys}<=1048576:=by unfold bdM;simp only;omega
 have hrng:=ZlE nx ny;have Hlx:=hid hlx;have Hly:=hid hly;have q0:((R:Int)!=(R:Int))=false:=by simp
 have q1:((C:Int)!=(C:Int))=false:=by simp
 have hna:R*C=na:=by omega
 have Hna:=hid hna;clear hna;obtain ⟨w3,hw3,hG3, -, -, -, -⟩:=al3 w #[Yv Yi (R:Int),Yv Yi (C:Int), .slice aa na ca] 28 #[Yv Yi (R:Int),Yv Yi (C:Int), .slice ab na cb] 28 #[Yv Yi 0,Yv Yi 0, .slice none 0 0] 28;have hs3:w3.heap.size=w.heap.size+3:=by rw[hw3];simp
 have bA:Blk w3 w.heap.size #[Yv Yi (R:Int),Yv Yi (C:Int), .slice aa na ca] 28:=by rw[hw3];exact ((Blk.new w _ _).alloc _).alloc _
 have bB:Blk w3 (w.heap.size+1) #[Yv Yi (R:Int),Yv Yi (C:Int), .slice ab na cb] 28:=by rw[hw3];exact (Blk.newAt _ _ _ (by simp)).alloc _
 have bZ:Blk w3 (w.heap.size+2) #[Yv Yi 0,Yv Yi 0, .slice none 0 0] 28:=by rw[hw3];exact Blk.newAt _ _ _ (by simp)
 obtain ⟨⟨a0,a1,a2⟩, -⟩:=bA.three;rw[hw3] at a0 a1 a2;have Hw3:=hid hw3;clear hw3 hlx hly;go_enter Tryz.func90,Tryz.ntmps90;go_wp2_with fail;rw[←Hw3.out];refine (ZP (vA.grow hG3) (by omega)).mono ?_;rintro e w4 ⟨rfl,hG4⟩;rw[HMA.out];clear a0 a1 a2;obtain ⟨⟨b0,b1,b2⟩, -⟩:=(bB.grow hG4).three;go_wp2_with fail;refine (ZP ((vB.grow hG3).grow hG4) (by omega)).mono ?_;rintro e w5 ⟨rfl,hG5⟩;rw[HMB.out];clear b0 b1 b2;have hG35:=(hG3.trans hG4).trans hG5;replace bA:=(bA.grow hG4).grow hG5;replace bB:=(bB.grow hG4).grow hG5;replace bZ:=(bZ.grow hG4).grow hG5;obtain ⟨⟨a0,a1,a2⟩, -⟩:=bA.three;obtain ⟨⟨b0,b1,b2⟩, -⟩:=bB.three;have hltA:=bA.lt;have hltB:=bB.lt;have hltZ:=bZ.lt;have hs35:=hG35.size;go_wp2_with fail;refine (ZfR R C _ (by omega) (by omega)).mono ?_;rintro e w6 ⟨ra,rfl,oR,fR,hG6⟩;rw[Hna.out] at oR ⊢;obtain ⟨zs,hzs⟩: ∃ zs,zs=List.replicate na (0:Int):=⟨_,rfl⟩;have Hzs:=hid (show zs.length=na by rw[hzs];simp);rw[←hzs] at oR;clear hzs;have bA6:=bA.grow hG6;have bB6:=bB.grow hG6;have bZ6:=bZ.grow hG6;have hG36:=hG35.trans hG6;have hlo: ∀ g,blk ra=some g->w5.heap.size<=g:=fun g hg=>fR g hg;have hlt6: ∀ g,blk ra=some g->g<w6.heap.size:=fun g hg=>oR.lt hg;have hs6:=hG6.size;obtain ⟨w7,hw7,hG7,bO7, -⟩:=al1 w6 #[Yv Yi (R:Int),Yv Yi (C:Int), .slice ra na na] 28;have hO7:=oR.grow hG7;have bA7:=bA6.grow hG7;have bB7:=bB6.grow hG7;have bZ7:=bZ6.grow hG7;have hG37:=hG36.trans hG7;have hs7:=hG7.size;have hKR: ∀ g,g<w7.heap.size->g<w5.heap.size->blk ra≠some g:=fun g _ hg e=>by have:=hlo _ e;omega
 have rA7:=(((hA.grow hG35).weak (T:=fun g=>g<w5.heap.size) (fun g hg _=>hg)).grow hG6).grow hG7;have rB7:=(((hB.grow hG35).weak (T:=fun g=>g<w5.heap.size) (fun g hg _=>hg)).grow hG6).grow hG7;have Hw7:=hid hw7;have Had:=hid (show ZY (amV xs ys) 0 na zs=amL xs ys by unfold amL;rw[Hlx.out];exact Zi6 Hzs.out);clear hw7 a0 a1 a2 b0 b1 b2 oR bA bB bZ bA6 bB6 bZ6 vA vB;go_wp2;rw[←Hw7.out];go_loopw [7] (fun q wr=>Keep (fun g=>blk ra≠some g) w7 wr/\ ∃ k:Nat,k<=na/\q=Yv Yi k/\Own wr 3 1 ra na na (ints (ZY (amV xs ys) 0 k zs))) (fun q _=>na-(intOf q).toNat);case atStart=>exact ⟨Keep.refl _ _,0,Nat.zero_le _,rfl,hO7⟩
 case round=>
  clear hO7;obtain ⟨u,rfl⟩: ∃ u,u=wr:=⟨_,rfl⟩;obtain ⟨hKp,k,hk,rfl,hO⟩:=hrel;have bOu:=bO7.keep hKp (fun e=>by have:=hlt6 _ e;omega);have bAu:=bA7.keep hKp (fun e=>by have:=hlo _ e;omega);have bBu:=bB7.keep hKp (fun e=>by have:=hlo _ e;omega);obtain ⟨⟨o0,o1,o2⟩, -⟩:=bOu.three;have hltO:=bOu.lt;by_cases hlt:k<na
  ·obtain ⟨⟨a0,a1,a2⟩, -⟩:=bAu.three;obtain ⟨⟨b0,b1,b2⟩, -⟩:=bBu.three;have hltA':=bAu.lt;have hltB':=bBu.lt;have hlen:(ZY (amV xs ys) 0 k zs).length=na:=(by rw[Z6,Hzs.out]);have rAu:=rA7.keep hKp hKR;have rBu:=rB7.keep hKp hKR;have hx:=nx.getD k;have hy:=ny.getD k;obtain ⟨pb,rfl⟩: ∃ pb,ra=some ⟨pb,0,none⟩:=by
    cases ra with
    |none=>have:=hO.nil rfl;have:=hO.le;omega
    |some q=>exact ⟨q.block,by rw[←(hO.block q rfl).1]⟩
   obtain ⟨b1b,off1,x,rfl,hxx, -, -,hbw1,hcx⟩:=rAu.at hlt;obtain rfl:x=xs.getD k 0:=(by rw[List.getD_eq_getElem?_getD,hxx];rfl);have hcd:=hO.cell (ZaH (by omega) (rfl:(ZY (amV xs ys) 0 k zs).getD k 0=(ZY (amV xs ys) 0 k zs).getD k 0));simp only at hcd;obtain ⟨b2b,off2,y,rfl,hyy, -, -,hbw2,hcy⟩:=rBu.at hlt;obtain rfl:y=ys.getD k 0:=(by rw[List.getD_eq_getElem?_getD,hyy];rfl);have hpb:=hO.lt (g:=pb) rfl;have hfr:=hO.free k;have hle:=hO.le;have Hst:=hid (show ZY (amV xs ys) 0 (k+1) zs=(ZY (amV xs ys) 0 k zs).set k (xs.getD k 0+ys.getD k 0) by simp[ZY,amV]);have hO9:Own ((u.setCell ⟨pb,k,none⟩ (Yv Yi (xs.getD k 0+ys.getD k 0))).drew) 3 1 (some ⟨pb,0,none⟩) na na (ints (ZY (amV xs ys) 0 (k+1) zs)):=(by have:=(hO.set k (Yv Yi (xs.getD k 0+ys.getD k 0))).grow (Grow.refl _).drew;rw[←ints_set, ←Hst.out] at this;exact this);have hK9:Keep (fun g=>blk (some (⟨pb,0,none⟩:Addr))≠some g) w7 ((u.setCell ⟨pb,k,none⟩ (Yv Yi (xs.getD k 0+ys.getD k 0))).drew):=(hKp.setCell (p:=⟨pb,k,none⟩) (fun _ e=>e rfl) _).drew;have u5:IntKind.i64.wrap (xs.getD k 0+ys.getD k 0)=xs.getD k 0+ys.getD k 0:=IntWalk.i64_in _ (by omega);clear hlen hO hyy;clear hxx;simp only at hcx hcy hfr;generalize xs.getD k 0=x at *;generalize ys.getD k 0=y at *;go_wp2;go_region;go_wp2;go_roundw;case rel=>exact ⟨hK9,k+1,by omega,by go_num,hO9⟩
   case measure=>simp[intOf];omega
  ·have hkE:k=na:=(by omega);rw[hkE,Had.out] at hO;clear hkE;have bZu:=bZ7.keep hKp (fun e=>by have:=hlo _ e;omega);have hGu:Grow w u:=Grow.keep (S:=fun g=>blk ra≠some g) hG37 hKp (fun g hg e=>by have:=hlo _ e;omega);have hsu:=hGu.size;have hOM:OM u (fun g=>w.heap.size+2<g/\g<u.heap.size) (.agg #[Yv Yi (R:Int),Yv Yi (C:Int), .slice ra na na]) {rows:=(R:Int),cols:=(C:Int),cells:=amL xs ys}:=(by exact ⟨ra,na,na,rfl,hO,hrng,(fun g hg=>⟨by have:=hlo g hg;omega,hO.lt hg⟩),by show I64 (R:Int);unfold I64;omega,by show I64 (C:Int);unfold I64;omega⟩);have hbd:bdM {rows:=(R:Int),cols:=(C:Int),cells:=amL xs ys}<=576:=(by unfold bdM;simp only;rw[Zl1,Hlx.out];omega);go_wp2_with fail;refine (Zh2 hOM (by omega)).mono ?_;rintro e w9 ⟨m9,rfl,hO9,hG9⟩;obtain ⟨a9,n9,c9,rfl,o9,x9,f9,i9,j9⟩:=hO9;have hs9:=hG9.size;have bZ9:=bZu.grow hG9;have hGa:=hGu.trans hG9;clear o0 o1 o2;have bZA:=bZ9.alloc (.cells #[Yv Yi (okM {rows:=(R:Int),cols:=(C:Int),cells:=amL xs ys}).rows,Yv Yi (okM {rows:=(R:Int),cols:=(C:Int),cells:=amL xs ys}).cols, .slice a9 n9 c9] 28);obtain ⟨⟨z0,z1,z2⟩,g0,g1,g2⟩:=bZA.three;obtain ⟨⟨y0,y1,y2⟩,f0,f1,f2⟩:=bZ9.three;have hltZ9:=bZ9.lt;go_wp2;have hle:w.heap.size<=w.heap.size+2:=(by omega);refine Zf Zb rfl rfl rfl ((((bZ9.set 0 _).set 1 _).set 2 _).alloc _) ⟨_,rfl,⟨a9,n9,c9,rfl, ?_,x9, ?_,i9,j9⟩,(((hGa.setCell hle _).setCell hle _).setCell hle _).alloc _ _⟩
   ·exact (o9.keep ((((Keep.refl (fun q=>q≠w.heap.size+2) w9).setCell (fun _ e=>e rfl) _).setCell (fun _ e=>e rfl) _).setCell (fun _ e=>e rfl) _) (fun g hg _ e=>by have:=(f9 g hg).1;omega)).grow ((Grow.refl _).alloc _ _)
   ·intro g hg;have h1:=o9.lt hg;have h2:=(f9 g hg).1;exact ⟨by omega,by simp;omega⟩
theorem Zqo (h:VM w S u A) (h':VM w T v B) (hb:bdM A<=1048576) (hb':bdM B<=1048576):
  Calls Tryz.prog 90 #[u,v] w fun e w'=> ∃ r,e= .returned (.tuple #[r, .bool (ZeG A B)])/\OM w' (New w w') r (amB A B)/\Grow w w':=by
 cases hF:Zer A B with
 |false=>exact Zpv h h' hb hb' hF
 |true=>
  rw[(Zhp hF).1,(Zhp hF).2];have h1:=hF;unfold Zer at h1;simp only[Bool.and_eq_true,beq_iff_eq] at h1;obtain ⟨g1,g2,g3,g4⟩:=h1;obtain ⟨R,C,e1,e2,hR,hC,hl,nx⟩:=ZD g1;obtain ⟨R',C',e1',e2',_,_,hl',ny⟩:=ZD g2;obtain ⟨ar,ac,xs⟩:=A;obtain ⟨br,bc,ys⟩:=B;simp only at g3 g4 e1 e2 hl nx e1' e2' hl' ny;subst e1 e2;obtain rfl:R'=R:=by omega
  obtain rfl:C'=C:=by omega
  subst g3 g4;obtain ⟨aa,na,ca,rfl,hA, -, -⟩:=h;obtain ⟨ab,nb,cb,rfl,hB, -, -⟩:=h';exact ZoE hA hB nx ny hR hC hl hl'
theorem Zpy (h:VM w S v m) (hb:bdM m<=1048576):
  Calls Tryz.prog 94 #[v] w fun e w'=> ∃ x1 x2 x3 x4 x5 y1 y2 y3 y4 y5,e= .returned (.tuple #[.agg #[Yv Yi x1,Yv Yi x2, .slice x3 x4 x5], .agg #[Yv Yi y1,Yv Yi y2, .slice y3 y4 y5], .bool (ZcT m).isSome])/\(∀ r,ZcT m=some r->VM w' (fun q=>w.heap.size<=q) (.agg #[Yv Yi x1,Yv Yi x2, .slice x3 x4 x5]) r)/\Grow w w':=by
 have hV:=h;obtain ⟨a,n,c,rfl,h,ir,ic⟩:=h;cases hB:Zg m with
 |false=>
  refine (ZfB hV hb hB).mono ?_;rintro e w' ⟨rfl,hG⟩;have hn:ZcT m=none:=by unfold ZcT;rw[hB];rfl
  exact ⟨_,_,_,_,_,_,_,_,_,_,by rw[hn];rfl,(fun s hs=>by rw[hn] at hs;cases hs),hG⟩
 |true=>
  obtain ⟨R,C,hmr,hmc,hR,hC,hl,hnum⟩:=ZD hB;have hE:ZcT m=(ZbE m.cells R C).map fun s=>{rows:=m.rows,cols:=m.cols,cells:=s.1}:=by unfold ZcT;rw[if_pos hB,hmr,hmc,Int.toNat_natCast,Int.toNat_natCast]
  obtain ⟨mr,mc,cells⟩:=m;simp only at hmr hmc hl hnum h hE ir ic;subst hmr;subst hmc;refine (Zfc h hl hnum hR hC).mono ?_;rintro e w' ⟨hG,hr⟩;rw[hE];rcases hr with ⟨hn,rfl⟩|⟨s,aa,ca,au,cu,hn,rfl,h1,h2⟩
  ·exact ⟨_,_,_,_,_,_,_,_,_,_,by rw[hn];rfl,(fun s hs=>by rw[hn] at hs;cases hs),hG⟩
  ·refine ⟨_,_,_,_,_,_,_,_,_,_,by rw[hn];rfl,fun s' hs=> ?_,hG⟩;rw[hn] at hs;obtain rfl:=Option.some.inj hs;exact ⟨aa,_,ca,rfl,h1,ir,ic⟩
theorem ZoP (h:VM w S v m) (hb:bdM m<=1048576):
  Calls Tryz.prog 95 #[v] w fun e w'=> ∃ x1 x2 x3 x4 x5 y1 y2 y3 y4 y5 z1 z2 z3 z4 z5,e= .returned (.tuple #[.agg #[Yv Yi x1,Yv Yi x2, .slice x3 x4 x5], .agg #[Yv Yi y1,Yv Yi y2, .slice y3 y4 y5], .agg #[Yv Yi z1,Yv Yi z2, .slice z3 z4 z5], .bool (ZcV m).isSome])/\(∀ r,ZcV m=some r->VM w' (fun q=>w.heap.size<=q) (.agg #[Yv Yi x1,Yv Yi x2, .slice x3 x4 x5]) r)/\Grow w w':=by
 have hV:=h;obtain ⟨a,n,c,rfl,h,ir,ic⟩:=h;cases hB:Zg m with
 |false=>
  refine (ZnX hV hb hB).mono ?_;rintro e w' ⟨rfl,hG⟩;have hn:ZcV m=none:=by unfold ZcV;rw[hB];rfl
  exact ⟨_,_,_,_,_,_,_,_,_,_,_,_,_,_,_,by rw[hn];rfl,(fun s hs=>by rw[hn] at hs;cases hs),hG⟩
 |true=>
  obtain ⟨R,C,hmr,hmc,hR,hC,hl,hnum⟩:=ZD hB;have hE:ZcV m=(Zen m.cells R C).map fun s=>{rows:=m.rows,cols:=m.cols,cells:=s.1}:=by unfold ZcV;rw[if_pos hB,hmr,hmc,Int.toNat_natCast,Int.toNat_natCast]
  obtain ⟨mr,mc,cells⟩:=m;simp only at hmr hmc hl hnum h hE ir ic;subst hmr;subst hmc;refine (Zmz h hl hnum hR hC).mono ?_;rintro e w' ⟨hG,hr⟩;rw[hE];rcases hr with ⟨hn,rfl⟩|⟨s,aa,ca,ub,un,uc,vb,vn,vc,hn,rfl,h1⟩
  ·exact ⟨_,_,_,_,_,_,_,_,_,_,_,_,_,_,_,by rw[hn];rfl,(fun s hs=>by rw[hn] at hs;cases hs),hG⟩
  ·refine ⟨_,_,_,_,_,_,_,_,_,_,_,_,_,_,_,by rw[hn];rfl,fun s' hs=> ?_,hG⟩;rw[hn] at hs;obtain rfl:=Option.some.inj hs;exact ⟨aa,_,ca,rfl,h1,ir,ic⟩
theorem Zqi (m:Mat):I64 (dtV m):=by
 unfold dtV I64;split
 ·cases h:Zak m.rows.toNat m.cells with
  |none=>simp
  |some d=>have:=Zcy h;simp only[Option.getD_some];omega
 ·omega
def VRs (w:World) (S:Nat->Prop) (v:Value) (r:Rs):Prop:= ∃ a c,v= .agg #[Yv Yi (rsM r).rows,Yv Yi (rsM r).cols, .slice a (rsM r).cells.length c, .bool r.isSome]/\RdI w S a (rsM r).cells.length c (rsM r).cells/\ROk r
def doR (d:Dfn) (x y:Rs):Rs:=ZhJ (if d.op=0 then some d.value else if x.isSome=true/\(2<d.op\/y.isSome=true) then opF d.op (rsM x) (rsM y) else none)
theorem VM.vrs {x y:Int} {a:Option Addr} {n c:Nat} (h:VM w S (.agg #[Yv Yi x,Yv Yi y, .slice a n c]) m):VRs w S (.agg #[Yv Yi x,Yv Yi y, .slice a n c, .bool true]) (rsS m):=by
 obtain ⟨a',n',c',e,rd,i1,i2⟩:=h;simp only[Value.agg.injEq,Array.mk.injEq,List.cons.injEq,Value.int.injEq,Value.slice.injEq,and_true,true_and] at e;obtain ⟨rfl,rfl,rfl,rfl,rfl⟩:=e;have hl:=rd.len;subst hl;exact ⟨_,_,rfl,rd,i1,i2⟩
theorem VRs.zero:VRs w S (.agg #[Yv Yi 0,Yv Yi 0, .slice none 0 0, .bool false]) rs0:=⟨none,0,rfl,RdI.nilw _,by unfold ROk rsM rs0 rsZ I64;simp⟩
theorem VRs.keep {w':World} (h:VRs w S v r) (hk:Keep T w w') (hST: ∀ b,b<w.heap.size->S b->T b):VRs w' S v r:=by
 obtain ⟨a,c,rfl,rd,ok⟩:=h;exact ⟨a,c,rfl,rd.keep hk hST,ok⟩
theorem VRs.weak (h:VRs w S v r) (hST: ∀ b,b<w.heap.size->S b->T b):VRs w T v r:=by
 obtain ⟨a,c,rfl,rd,ok⟩:=h;exact ⟨a,c,rfl,rd.weak hST,ok⟩
theorem Zmj {U:Nat->Prop} {dv:Value} {d:Dfn} {x y:Rs} (hd:VD w U dv d) (h:VRs w S u x) (h':VRs w T v y) (hbd:d.value.cells.length<=1048576) (hbx:(rsM x).cells.length<=1048576) (hby:(rsM y).cells.length<=1048576) (hop:0<=d.op/\d.op<=9):
  Calls Tryz.prog 67 #[dv,u,v] w fun e w'=> ∃ rv,e= .returned rv/\VRs w' (fun q=>w.heap.size<=q) rv (doR d x y)/\Grow w w':=by
 obtain ⟨da,dn,dc,rfl,rD,oD⟩:=hd;obtain ⟨aa,ca,rfl,rA,oA⟩:=h;obtain ⟨ab,cb,rfl,rB,oB⟩:=h';obtain ⟨res,hres2⟩: ∃ r,r=if d.op=0 then some d.value else if x.isSome=true/\(2<d.op\/y.isSome=true) then opF d.op (rsM x) (rsM y) else none:=⟨_,rfl⟩;have hres:doR d x y=ZhJ res:=by rw[hres2];rfl
 rw[hres];have oA1:I64 (rsM x).rows/\I64 (rsM x).cols:=oA;have oB1:I64 (rsM y).rows/\I64 (rsM y).cols:=oB;clear hres oA oB;generalize rsM x=A at *;generalize rsM y=B at *;obtain ⟨bx,hbx'⟩: ∃ b,b=x.isSome:=⟨_,rfl⟩;obtain ⟨yb,hyb'⟩: ∃ b,b=y.isSome:=⟨_,rfl⟩;rw[←hbx', ←hyb'] at hres2 ⊢;clear hbx' hyb' x y;obtain ⟨w1,hw1,hG,bD,bA,bB,bZ,hs1⟩:=al4 w #[.string d.name,Yv Yi d.op, .string d.a, .string d.b,Yv Yi d.value.rows,Yv Yi d.value.cols, .slice da dn dc] 30 #[Yv Yi A.rows,Yv Yi A.cols, .slice aa A.cells.length ca, .bool bx] 39 #[Yv Yi B.rows,Yv Yi B.cols, .slice ab B.cells.length cb, .bool yb] 39 #[Yv Yi 0,Yv Yi 0, .slice none 0 0, .bool false] 39;have d1:w1.cell? ⟨w.heap.size,1,none⟩=some (Yv Yi d.op):=bD.cell 1;have d4:w1.cell? ⟨w.heap.size,4,none⟩=some (Yv Yi d.value.rows):=bD.cell 4;have d5:w1.cell? ⟨w.heap.size,5,none⟩=some (Yv Yi d.value.cols):=bD.cell 5;have d6:w1.cell? ⟨w.heap.size,6,none⟩=some (.slice da dn dc):=bD.cell 6;have hltD:=bD.lt;have Hw1:=hid hw1;by_cases h0:d.op=0
 ·have HE:=hid (show res=some d.value by rw[hres2,if_pos h0]);have vD:VM w1 U (.agg #[Yv Yi d.value.rows,Yv Yi d.value.cols, .slice da dn dc]) d.value:=⟨da,dn,dc,rfl,rD.grow hG,oD.2.2.2.2.1,oD.2.2.2.2.2⟩;rw[h0] at d1;rw[Hw1.out] at d1 d4 d5 d6 hltD;clear bA bB bD hw1 hres2 h0;go_enter Tryz.func67,Tryz.ntmps67;go_wp2_with fail;rw[←Hw1.out];refine (Zdy vD (by unfold bdM;omega)).mono ?_;rintro e w2 ⟨rv,rfl,⟨ra,rn,rc,rfl,oR,rR,fR,i1,i2⟩,hG2⟩;have hV:VRs w2 (fun q=>w1.heap.size<=q) (.agg #[Yv Yi d.value.rows,Yv Yi d.value.cols, .slice ra rn rc, .bool true]) (rsS d.value):=VM.vrs ⟨ra,rn,rc,rfl,oR.rdI (fun q hq=>(fR q hq).1) rR,i1,i2⟩;replace bZ:=bZ.grow hG2;replace hG:=hG.trans hG2;clear d1 d4 d5 d6 hltD;have hle:w.heap.size<=w.heap.size+1+1+1:=by omega
  obtain ⟨⟨z0,z1,z2,z3⟩,zf3⟩:=bZ.four';have zf0:=bZ.free 0;have zf1:=bZ.free 1;have zf2:=bZ.free 2;have hltZ:=bZ.lt;have hKs: ∀ (W:World) p q r s,Keep (fun g=>g≠w.heap.size+1+1+1) W ((((W.setCell ⟨w.heap.size+1+1+1,0,none⟩ p).setCell ⟨w.heap.size+1+1+1,1,none⟩ q).setCell ⟨w.heap.size+1+1+1,2,none⟩ r).setCell ⟨w.heap.size+1+1+1,3,none⟩ s):=fun W p q r s=>
   ((((Keep.refl _ W).setCell (fun _ e=>e rfl) _).setCell (fun _ e=>e rfl) _).setCell (fun _ e=>e rfl) _).setCell (fun _ e=>e rfl) _
  have HKs:=hid hKs;clear hKs;go_wp2;exact ZB ZbA rfl rfl rfl ((((bZ.set 0 _).set 1 _).set 2 _).set 3 _) ⟨_,rfl,by rw[HE.out];exact (VRs.keep hV (HKs.out _ _ _ _ _) (fun g _ hg=>(by omega))).weak fun q _ hq=>by omega,(((hG.setCell hle _).setCell hle _).setCell hle _).setCell hle _⟩
 ·rw[if_neg h0] at hres2;have hop1:1<=d.op:=by omega
  obtain ⟨⟨a0,a1,a2,a3⟩, -⟩:=bA.four';obtain ⟨⟨b0,b1,b2,b3⟩, -⟩:=bB.four';have hltA:=bA.lt;have hltB:=bB.lt;have hop9:=hop.2;clear hop h0 bD d4 d5 d6 rD oD;obtain ⟨op,hopd⟩: ∃ o,o=d.op:=⟨_,rfl⟩;rw[←hopd] at hop1 hop9 d1 hres2 hw1 Hw1 ⊢;clear hopd;cases bx with
  |false=>have HE:=hid (show res=none by rw[hres2,if_neg (fun h=>by cases h.1)]);rw[Hw1.out] at a0 a1 a2 a3 b0 b1 b2 b3 hltA hltB d1 hltD bZ hG;clear hres2 bA bB hw1;go_enter Tryz.func67,Tryz.ntmps67;go_wp2;exact ZB ZbA rfl rfl rfl bZ ⟨_,rfl,by rw[HE.out];exact VRs.zero,hG⟩
  |true=>
   by_cases hn:yb=false/\op<=2
   ·obtain ⟨rfl,h2⟩:=hn;have HE:=hid (show res=none by rw[hres2,if_neg (by simp;omega)]);rw[Hw1.out] at a0 a1 a2 a3 b0 b1 b2 b3 hltA hltB d1 hltD bZ hG;clear hres2 bA bB hw1;go_enter Tryz.func67,Tryz.ntmps67;go_wp2;exact ZB ZbA rfl rfl rfl bZ ⟨_,rfl,by rw[HE.out];exact VRs.zero,hG⟩
   ·have hf:2<op\/yb=true:=by
     cases yb with
     | false => exact .inl (by
       rcases Int.lt_or_le 2 op with h|h
       ·exact h
       ·exact (hn ⟨rfl,h⟩).elim)
     |true=>exact .inr rfl
    rw[if_pos ⟨rfl,hf⟩] at hres2;have HR:=hid hres2;obtain ⟨w2,hw2,hG2, -, -⟩:=al1 w1 #[Yv Yi 0,Yv Yi 0, .slice none 0 0] 28;have bT:Blk w2 (w.heap.size+1+1+1+1) #[Yv Yi 0,Yv Yi 0, .slice none 0 0] 28:=(by rw[hw2];exact Blk.newAt _ _ _ hs1.symm);have Hw2:=hid hw2;rw[Hw1.out] at Hw2;replace bZ:=bZ.grow hG2;replace hG:=hG.trans hG2;have vA:VM w2 S (.agg #[Yv Yi A.rows,Yv Yi A.cols, .slice aa A.cells.length ca]) A:=⟨aa,_,ca,rfl,rA.grow hG,oA1.1,oA1.2⟩;have vB:VM w2 T (.agg #[Yv Yi B.rows,Yv Yi B.cols, .slice ab B.cells.length cb]) B:=⟨ab,_,cb,rfl,rB.grow hG,oB1.1,oB1.2⟩;have hbA:bdM A<=1048576:=hbx;have hbB:bdM B<=1048576:=hby;rw[Hw1.out] at a0 a1 a2 a3 b0 b1 b2 b3 hltA hltB d1 hltD;clear hres2 hw2 hw1 hn rA rB oA1 oB1 hbx hby hG2 bA bB;have hc:op=1\/op=2\/op=4\/op=3\/op=5\/op=6\/op=7\/op=8\/op=9:=(by omega);rcases hc with rfl|rfl|rfl|rfl|rfl|rfl|rfl|rfl|rfl
    case' inl=>
     obtain rfl:yb=true:=(by rcases hf with h|h;omega;exact h);clear hf;go_enter Tryz.func67,Tryz.ntmps67;go_wp2_with fail;rw[←Hw2.out];refine (Zqo vA vB hbA hbB).mono ?_;rintro e w3 ⟨rv,rfl,⟨ra,rn,rc,rfl,oR,rR,fR,i1,i2⟩,hG3⟩;have HO:=hid (show res=okF (ZeG A B) (amB A B) by rw[HR.out];rfl);cases hok:ZeG A B
     case' false=>have HE:=hid (show res=none by rw[HO.out,hok];rfl);have hV:=VRs.zero (w:=w3) (S:=fun q=>w2.heap.size<=q)
     case' true=>have HE:=hid (show res=some (amB A B) by rw[HO.out,hok];rfl);have hV:VRs w3 (fun q=>w2.heap.size<=q) (.agg #[Yv Yi (amB A B).rows,Yv Yi (amB A B).cols, .slice ra rn rc, .bool true]) (rsS (amB A B)):=VM.vrs ⟨ra,rn,rc,rfl,oR.rdI (fun q hq=>(fR q hq).1) rR,i1,i2⟩
     all_goals clear hok HO oR rR fR i1 i2;generalize amB A B=P at *
    case' inr.inl=>
     obtain rfl:yb=true:=(by rcases hf with h|h;omega;exact h);clear hf;go_enter Tryz.func67,Tryz.ntmps67;go_wp2_with fail;rw[←Hw2.out];refine (Zjj vA vB (by omega) (by omega)).mono ?_;rintro e w3 ⟨rv,rfl,⟨ra,rn,rc,rfl,oR,rR,fR,i1,i2⟩,hG3⟩;have HO:=hid (show res=okF (Zag A B) (Zaw A B) by rw[HR.out];rfl);cases hok:Zag A B
     case' false=>have HE:=hid (show res=none by rw[HO.out,hok];rfl);have hV:=VRs.zero (w:=w3) (S:=fun q=>w2.heap.size<=q)
     case' true=>have HE:=hid (show res=some (Zaw A B) by rw[HO.out,hok];rfl);have hV:VRs w3 (fun q=>w2.heap.size<=q) (.agg #[Yv Yi (Zaw A B).rows,Yv Yi (Zaw A B).cols, .slice ra rn rc, .bool true]) (rsS (Zaw A B)):=VM.vrs ⟨ra,rn,rc,rfl,oR.rdI (fun q hq=>(fR q hq).1) rR,i1,i2⟩
     all_goals clear hok HO oR rR fR i1 i2;generalize Zaw A B=P at *
    case inr.inr.inl=>
     go_enter Tryz.func67,Tryz.ntmps67;go_wp2_with fail;rw[←Hw2.out];refine (ZoT vA hbA).mono ?_;rintro e w3 ⟨rfl,hG3⟩;have HO:=hid (show res=okF (Zds A) {rows:=1,cols:=1,cells:=[dtV A]} by rw[HR.out];rfl);have hls:w.heap.size+1+1+1+1<w2.heap.size:=bT.lt;replace bZ:=bZ.grow hG3;replace bT:=bT.grow hG3;replace hG:=hG.trans hG3;clear a0 a1 a2 a3 b0 b1 b2 b3 hltA hltB d1 hltD;have hdr:=Zqi A;cases hok:Zds A
     case' false=>have HE:=hid (show res=none by rw[HO.out,hok];rfl)
     case' true=>have HE:=hid (show res=some {rows:=1,cols:=1,cells:=[dtV A]} by rw[HO.out,hok];rfl)
     all_goals
      clear hok HO;generalize dtV A=dv at *;have hle:w.heap.size<=w.heap.size+1+1+1:=(by omega);have hleT:w.heap.size<=w.heap.size+1+1+1+1:=(by omega);have nTZ:w.heap.size+1+1+1≠w.heap.size+1+1+1+1:=(by omega);obtain ⟨⟨z0,z1,z2,z3⟩,zf3⟩:=bZ.four';obtain ⟨⟨t0,t1,t2⟩,tf0,tf1,tf2⟩:=bT.three;have zf0:=bZ.free 0;have zf1:=bZ.free 1;have zf2:=bZ.free 2;have hltZ:=bZ.lt;have hltT:=bT.lt;have hKs: ∀ (W:World) a b c p q r s,Keep (fun g=>g≠w.heap.size+1+1+1+1/\g≠w.heap.size+1+1+1) W (((((((W.setCell ⟨w.heap.size+1+1+1+1,0,none⟩ a).setCell ⟨w.heap.size+1+1+1+1,1,none⟩ b).setCell ⟨w.heap.size+1+1+1+1,2,none⟩ c).setCell ⟨w.heap.size+1+1+1,0,none⟩ p).setCell ⟨w.heap.size+1+1+1,1,none⟩ q).setCell ⟨w.heap.size+1+1+1,2,none⟩ r).setCell ⟨w.heap.size+1+1+1,3,none⟩ s):=fun W a b c p q r s=>
       (((((((Keep.refl _ W).setCell (fun _ e=>e.1 rfl) _).setCell (fun _ e=>e.1 rfl) _).setCell (fun _ e=>e.1 rfl) _).setCell (fun _ e=>e.2 rfl) _).setCell (fun _ e=>e.2 rfl) _).setCell (fun _ e=>e.2 rfl) _).setCell (fun _ e=>e.2 rfl) _
      have HKs:=hid hKs;clear hKs;go_wp2;have hv0: ∀ W:World,VRs W (fun q=>w.heap.size<=q) (.agg #[Yv Yi 0,Yv Yi 0, .slice none 0 0, .bool false]) rs0:=fun _=>VRs.zero;have hv1: ∀ W:World,W.heap.size=w3.heap.size->VRs (W.alloc (.cells #[Yv Yi dv] 3)) (fun q=>w.heap.size<=q) (.agg #[Yv Yi 1,Yv Yi 1, .slice (some ⟨w3.heap.size,0,none⟩) 1 1, .bool true]) (rsS {rows:=1,cols:=1,cells:=[dv]}):=fun W hW=>
       VM.vrs ⟨some ⟨w3.heap.size,0,none⟩,1,1,rfl,(Own.freshAt (cs:= #[Yv Yi dv]) (n:=1) (sz:=1) hW.symm (by unfold maxLen;omega) rfl:Own (W.alloc (.cells #[Yv Yi dv] 3)) 3 1 (some ⟨w3.heap.size,0,none⟩) 1 1 (ints [dv])).rdI (fun q hq=>by have:=Option.some.inj hq;simp only at this;have:=hG3.size;omega) (fun x hx=>by rw[List.mem_singleton.1 hx];exact hdr),by show I64 1;unfold I64;simp,by show I64 1;unfold I64;simp⟩
      exact ZB ZbA rfl rfl rfl ((((((((bZ.other nTZ _).other nTZ _).other nTZ _).set 0 _).set 1 _).set 2 _).set 3 _).alloc _) ⟨_,rfl,by rw[HE.out];(first |exact hv0 _|exact hv1 _ (by simp)),(((((((hG.setCell hleT _).setCell hleT _).setCell hleT _).setCell hle _).setCell hle _).setCell hle _).setCell hle _).alloc _ _⟩
    case' inr.inr.inr.inl=>
     go_enter Tryz.func67,Tryz.ntmps67;go_wp2_with fail;rw[←Hw2.out];refine (Zn6 vA hbA).mono ?_;rintro e w3 ⟨rv,rfl,⟨ra,rn,rc,rfl,oR,rR,fR,i1,i2⟩,hG3⟩;have HO:=hid (show res=okF (Zg A) (trB A) by rw[HR.out];rfl);cases hok:Zg A
     case' false=>have HE:=hid (show res=none by rw[HO.out,hok];rfl);have hV:=VRs.zero (w:=w3) (S:=fun q=>w2.heap.size<=q)
     case' true=>have HE:=hid (show res=some (trB A) by rw[HO.out,hok];rfl);have hV:VRs w3 (fun q=>w2.heap.size<=q) (.agg #[Yv Yi (trB A).rows,Yv Yi (trB A).cols, .slice ra rn rc, .bool true]) (rsS (trB A)):=VM.vrs ⟨ra,rn,rc,rfl,oR.rdI (fun q hq=>(fR q hq).1) rR,i1,i2⟩
     all_goals clear hok HO oR rR fR i1 i2;generalize trB A=P at *
    case' inr.inr.inr.inr.inl=>
     go_enter Tryz.func67,Tryz.ntmps67;go_wp2_with fail;rw[←Hw2.out];refine (Zpy vA hbA).mono ?_;rintro e w3 ⟨x1,x2,x3,x4,x5,y1,y2,y3,y4,y5,rfl,hr,hG3⟩;have HO:=hid (show res=ZcT A from HR.out);obtain ⟨rr,hrr⟩: ∃ r,r=ZcT A:=⟨_,rfl⟩;rw[←hrr] at hr HO ⊢;clear hrr;cases rr
     case' none=>have HE:=hid (show res=none from HO.out);have hV:=VRs.zero (w:=w3) (S:=fun q=>w2.heap.size<=q)
     case' some r=>
      have HE:=hid (show res=some r from HO.out);have hV:=VM.vrs (hr r rfl)
     all_goals clear HO hr
    case' inr.inr.inr.inr.inr.inl=>
     go_enter Tryz.func67,Tryz.ntmps67;go_wp2_with fail;rw[←Hw2.out];refine (ZoP vA hbA).mono ?_;rintro e w3 ⟨x1,x2,x3,x4,x5,y1,y2,y3,y4,y5,k1,k2,k3,k4,k5,rfl,hr,hG3⟩;have HO:=hid (show res=ZcV A from HR.out);obtain ⟨rr,hrr⟩: ∃ r,r=ZcV A:=⟨_,rfl⟩;rw[←hrr] at hr HO ⊢;clear hrr;cases rr
     case' none=>have HE:=hid (show res=none from HO.out);have hV:=VRs.zero (w:=w3) (S:=fun q=>w2.heap.size<=q)
     case' some r=>
      have HE:=hid (show res=some r from HO.out);have hV:=VM.vrs (hr r rfl)
     all_goals clear HO hr
    case' inr.inr.inr.inr.inr.inr.inl=>
     go_enter Tryz.func67,Tryz.ntmps67;go_wp2_with fail;rw[←Hw2.out];refine (Zlx vA hbA).mono ?_;rintro e w3 ⟨rv,rfl,⟨ra,rn,rc,rfl,oR,rR,fR,i1,i2⟩,hG3⟩;have HO:=hid (show res=okF (ZcW A) (Zcb A) by rw[HR.out];rfl);cases hok:ZcW A
     case' false=>have HE:=hid (show res=none by rw[HO.out,hok];rfl);have hV:=VRs.zero (w:=w3) (S:=fun q=>w2.heap.size<=q)
     case' true=>have HE:=hid (show res=some (Zcb A) by rw[HO.out,hok];rfl);have hV:VRs w3 (fun q=>w2.heap.size<=q) (.agg #[Yv Yi (Zcb A).rows,Yv Yi (Zcb A).cols, .slice ra rn rc, .bool true]) (rsS (Zcb A)):=VM.vrs ⟨ra,rn,rc,rfl,oR.rdI (fun q hq=>(fR q hq).1) rR,i1,i2⟩
     all_goals clear hok HO oR rR fR i1 i2;generalize Zcb A=P at *
    case' inr.inr.inr.inr.inr.inr.inr.inl=>
     go_enter Tryz.func67,Tryz.ntmps67;go_wp2_with fail;rw[←Hw2.out];refine (Zjx vA hbA).mono ?_;rintro e w3 ⟨rv,rfl,⟨ra,rn,rc,rfl,oR,rR,fR,i1,i2⟩,hG3⟩;have HO:=hid (show res=okF (ZaL A) (ZaD A) by rw[HR.out];rfl);cases hok:ZaL A
     case' false=>have HE:=hid (show res=none by rw[HO.out,hok];rfl);have hV:=VRs.zero (w:=w3) (S:=fun q=>w2.heap.size<=q)
     case' true=>have HE:=hid (show res=some (ZaD A) by rw[HO.out,hok];rfl);have hV:VRs w3 (fun q=>w2.heap.size<=q) (.agg #[Yv Yi (ZaD A).rows,Yv Yi (ZaD A).cols, .slice ra rn rc, .bool true]) (rsS (ZaD A)):=VM.vrs ⟨ra,rn,rc,rfl,oR.rdI (fun q hq=>(fR q hq).1) rR,i1,i2⟩
     all_goals clear hok HO oR rR fR i1 i2;generalize ZaD A=P at *
    case' inr.inr.inr.inr.inr.inr.inr.inr=>
     go_enter Tryz.func67,Tryz.ntmps67;go_wp2_with fail;rw[←Hw2.out];refine (Zpm vA hbA).mono ?_;rintro e w3 ⟨rv,y1,y2,y3,y4,y5,rfl,⟨ra,rn,rc,rfl,oR,rR,fR,i1,i2⟩,hG3⟩;have HO:=hid (show res=okF (Zbz A) (Zbf A) by rw[HR.out];rfl);cases hok:Zbz A
     case' false=>have HE:=hid (show res=none by rw[HO.out,hok];rfl);have hV:=VRs.zero (w:=w3) (S:=fun q=>w2.heap.size<=q)
     case' true=>have HE:=hid (show res=some (Zbf A) by rw[HO.out,hok];rfl);have hV:VRs w3 (fun q=>w2.heap.size<=q) (.agg #[Yv Yi (Zbf A).rows,Yv Yi (Zbf A).cols, .slice ra rn rc, .bool true]) (rsS (Zbf A)):=VM.vrs ⟨ra,rn,rc,rfl,oR.rdI (fun q hq=>(fR q hq).1) rR,i1,i2⟩
     all_goals clear hok HO oR rR fR i1 i2;generalize Zbf A=P at *
    all_goals
     have hls:w.heap.size+1+1+1+1<w2.heap.size:=bT.lt;replace bZ:=bZ.grow hG3;replace bT:=bT.grow hG3;replace hG:=hG.trans hG3;clear a0 a1 a2 a3 b0 b1 b2 b3 hltA hltB d1 hltD;have hle:w.heap.size<=w.heap.size+1+1+1:=(by omega);have hleT:w.heap.size<=w.heap.size+1+1+1+1:=(by omega);have nTZ:w.heap.size+1+1+1≠w.heap.size+1+1+1+1:=(by omega);obtain ⟨⟨z0,z1,z2,z3⟩,zf3⟩:=bZ.four';obtain ⟨⟨t0,t1,t2⟩,tf0,tf1,tf2⟩:=bT.three;have zf0:=bZ.free 0;have zf1:=bZ.free 1;have zf2:=bZ.free 2;have hltZ:=bZ.lt;have hltT:=bT.lt;have hKs: ∀ (W:World) a b c p q r s,Keep (fun g=>g≠w.heap.size+1+1+1+1/\g≠w.heap.size+1+1+1) W (((((((W.setCell ⟨w.heap.size+1+1+1+1,0,none⟩ a).setCell ⟨w.heap.size+1+1+1+1,1,none⟩ b).setCell ⟨w.heap.size+1+1+1+1,2,none⟩ c).setCell ⟨w.heap.size+1+1+1,0,none⟩ p).setCell ⟨w.heap.size+1+1+1,1,none⟩ q).setCell ⟨w.heap.size+1+1+1,2,none⟩ r).setCell ⟨w.heap.size+1+1+1,3,none⟩ s):=fun W a b c p q r s=>
      (((((((Keep.refl _ W).setCell (fun _ e=>e.1 rfl) _).setCell (fun _ e=>e.1 rfl) _).setCell (fun _ e=>e.1 rfl) _).setCell (fun _ e=>e.2 rfl) _).setCell (fun _ e=>e.2 rfl) _).setCell (fun _ e=>e.2 rfl) _).setCell (fun _ e=>e.2 rfl) _
     have HKs:=hid hKs;clear hKs;go_wp2;exact ZB ZbA rfl rfl rfl (((((((bZ.other nTZ _).other nTZ _).other nTZ _).set 0 _).set 1 _).set 2 _).set 3 _) ⟨_,rfl,by rw[HE.out];exact (VRs.keep hV (HKs.out _ _ _ _ _ _ _ _) (fun g _ hg=>⟨by omega,by omega⟩)).weak fun q _ hq=>by omega,((((((hG.setCell hleT _).setCell hleT _).setCell hleT _).setCell hle _).setCell hle _).setCell hle _).setCell hle _⟩

end Go.Proofs.YtgeoehnbpkediaaGreat
