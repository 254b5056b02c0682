/- AddMatrices: the program's, for all arguments. -/
import Derived.Test.YtjpcgofidijigaaGreatDoorZHermF
import Derived.Test.YtjpcgofidijigaaGreatDoorZDetI
import Derived.Test.YtjpcgofidijigaaGreatDoorZOrder
set_option maxHeartbeats 8000000
set_option maxRecDepth 100000
namespace Go.Proofs.YtjpcgofidijigaaGreatDoor
open Go.RowKit
open Lib (hid)
open Go.Value renaming int->Yv
open Go.IntKind renaming i64->Yi
variable {A B a b m:Mat} {S T:Nat->Prop} {u v:Value} {w:World} {xs ys:List Int}
def amV (xs ys:List Int) (k:Nat):Int:=xs.getD k 0+ys.getD k 0
def amL (xs ys:List Int):List Int:=(List.range xs.length).map (amV xs ys)
theorem Zrl (xs ys:List Int):(amL xs ys).length=xs.length:=by simp[amL]
theorem ZoR {f:Nat->Int}: ∀ {n:Nat} {zs:List Int},zs.length=n->ZC f 0 n zs=(List.range n).map f:=fun {n zs} h=>by
 apply List.ext_getElem
 ·rw[ZL];simp[h]
 ·intro i h1 h2;have h3:i<n:=by simpa using h2
  have:=Zbc (f:=f) (o:=0) (k:=n) (m:=zs) (by omega) i;rw[if_pos (by omega)] at this;rw[List.getD_eq_getElem?_getD,List.getElem?_eq_getElem h1] at this;simpa using this
theorem Zrs (nx:NumL xs) (ny:NumL ys) (k:Nat): -800000000<=amV xs ys k/\amV xs ys k<=800000000:=by
 have:=nx.getD k;have:=ny.getD k;unfold amV;omega
theorem ZrM (nx:NumL xs) (ny:NumL ys): ∀ x∈amL xs ys,I64 x:=fun x hx=>by
 unfold amL at hx;obtain ⟨k,_,rfl⟩:=List.mem_map.1 hx;have:=Zrs nx ny k;unfold I64;omega
def amM (a b:Mat):Mat:={rows:=a.rows,cols:=a.cols,cells:=amL a.cells b.cells}
def Zgp (a b:Mat):Bool:=Ze a&&(Ze b&&((a.rows==b.rows)&&(a.cols==b.cols)))
def ZhB (a b:Mat):Bool:=Zgp a b&&Ze (amM a b)
def amB (a b:Mat):Mat:=if Zgp a b=true then okM (amM a b) else {rows:=0,cols:=0,cells:=[]}
theorem Zsk (h:Zgp a b=false):ZhB a b=false/\amB a b={rows:=0,cols:=0,cells:=[]}:=by unfold ZhB amB;rw[h];exact ⟨rfl,rfl⟩
theorem ZmY (h:Zgp a b=true):ZhB a b=Ze (amM a b)/\amB a b=okM (amM a b):=by unfold ZhB amB;rw[h];exact ⟨by simp,by simp⟩
theorem ZrN (h:VM w S u A) (h':VM w T v B) (hb:bdM A<=1048576) (hb':bdM B<=1048576) (hF:Zgp A B=false):
  Calls Tryz.prog 135 #[u,v] w fun e w'=> ∃ r,e= .returned (.tuple #[r, .bool (ZhB A B)])/\OM w' (New w w') r (amB A B)/\Grow w w':=by
 have vA:=h;have vB:=h';obtain ⟨aa,na,ca,rfl, -⟩:=h;obtain ⟨ab,nb,cb,rfl, -⟩:=h';have Hn:=hid (Zsk hF);obtain ⟨w3,hw3,hG3,bA,bB,bZ, -⟩:=al3 w #[Yv Yi A.rows,Yv Yi A.cols, .slice aa na ca] 34 #[Yv Yi B.rows,Yv Yi B.cols, .slice ab nb cb] 34 #[Yv Yi 0,Yv Yi 0, .slice none 0 0] 34;have Hw3:=hid hw3;clear hw3;have HF:=hid (show (Ze A&&(Ze B&&((A.rows==B.rows)&&(A.cols==B.cols))))=false from hF);clear hF;go_enter Tryz.func135,Tryz.ntmps135;go_wp2_with fail;rw[←Hw3.out];refine (Zz (vA.grow hG3) (by omega)).mono ?_;rintro e w4 ⟨rfl,hG4⟩;replace bA:=bA.grow hG4;replace bB:=bB.grow hG4;replace bZ:=bZ.grow hG4;have hG:=hG3.trans hG4;obtain ⟨⟨a0,a1,a2⟩, -⟩:=bA.three;obtain ⟨⟨b0,b1,b2⟩, -⟩:=bB.three;have hltA:=bA.lt;have hltB:=bB.lt;cases hA:Ze A with
 |false=>
  clear hA;have hle:w.heap.size<=w.heap.size+1+1:=by omega
  obtain ⟨⟨z0,z1,z2⟩,g0,g1,g2⟩:=bZ.three;have hltZ:=bZ.lt;go_wp2;exact Zd Zc rfl rfl rfl (((bZ.set 0 _).set 1 _).set 2 _) ⟨_,by rw[Hn.out.1];rfl,by rw[Hn.out.2];exact OM.zero,((hG.setCell hle _).setCell hle _).setCell hle _⟩
 |true=>
  rw[hA] at HF;clear hA;go_wp2_with fail;refine (Zz (vB.grow hG) (by omega)).mono ?_;rintro e w5 ⟨rfl,hG5⟩;clear a0 a1 a2 b0 b1 b2 hltA hltB;replace bA:=bA.grow hG5;replace bB:=bB.grow hG5;replace bZ:=bZ.grow hG5;replace hG:=hG.trans hG5;obtain ⟨⟨a0,a1,a2⟩, -⟩:=bA.three;obtain ⟨⟨b0,b1,b2⟩, -⟩:=bB.three;have hltA:=bA.lt;have hltB:=bB.lt;cases hB:Ze B with
  |false=>clear hB;have hle:w.heap.size<=w.heap.size+1+1:=(by omega);obtain ⟨⟨z0,z1,z2⟩,g0,g1,g2⟩:=bZ.three;have hltZ:=bZ.lt;go_wp2;exact Zd Zc rfl rfl rfl (((bZ.set 0 _).set 1 _).set 2 _) ⟨_,by rw[Hn.out.1];rfl,by rw[Hn.out.2];exact OM.zero,((hG.setCell hle _).setCell hle _).setCell hle _⟩
  |true=>
   rw[hB] at HF;clear hB;by_cases hr:A.rows=B.rows
   ·have q1:(A.rows !=B.rows)=false:=(by simp[hr]);have q2:(A.cols !=B.cols)=true:=(by have:=HF.out;simp[hr] at this;simp[this]);clear hr HF;have hle:w.heap.size<=w.heap.size+1+1:=(by omega);obtain ⟨⟨z0,z1,z2⟩,g0,g1,g2⟩:=bZ.three;have hltZ:=bZ.lt;go_wp2;exact Zd Zc rfl rfl rfl (((bZ.set 0 _).set 1 _).set 2 _) ⟨_,by rw[Hn.out.1];rfl,by rw[Hn.out.2];exact OM.zero,((hG.setCell hle _).setCell hle _).setCell hle _⟩
   ·have q1:(A.rows !=B.rows)=true:=(by simp[hr]);clear hr HF;have hle:w.heap.size<=w.heap.size+1+1:=(by omega);obtain ⟨⟨z0,z1,z2⟩,g0,g1,g2⟩:=bZ.three;have hltZ:=bZ.lt;go_wp2;exact Zd Zc rfl rfl rfl (((bZ.set 0 _).set 1 _).set 2 _) ⟨_,by rw[Hn.out.1];rfl,by rw[Hn.out.2];exact OM.zero,((hG.setCell hle _).setCell hle _).setCell hle _⟩
theorem ZpR {aa ab:Option Addr} {na nb ca cb R C:Nat} (hA:RdI w S aa na ca xs) (hB:RdI w T ab nb cb ys) (nx:NumL xs) (ny:NumL ys) (hR:R<=24) (hC:C<=24) (hlX:xs.length=R*C) (hlY:ys.length=R*C):
  Calls Tryz.prog 135 #[.agg #[Yv Yi (R:Int),Yv Yi (C:Int), .slice aa na ca], .agg #[Yv Yi (R:Int),Yv Yi (C:Int), .slice ab nb cb]] w fun e w'=> ∃ r,e= .returned (.tuple #[r, .bool (Ze {rows:=(R:Int),cols:=(C:Int),cells:=amL xs ys})])/\OM w' (New w w') r (okM {rows:=(R:Int),cols:=(C:Int),cells:=amL xs ys})/\Grow w w':=by
 have hRC:R*C<=24*24:=Nat.mul_le_mul hR hC;have hlx:=hA.len;have hly:=hB.len;have HMA:=hid (Za9 hR hC hlX nx);have HMB:=hid (Za9 hR hC hlY ny);obtain ⟨K,hKe⟩: ∃ K,K=na:=⟨_,rfl⟩;obtain rfl:nb=K:=by omega
 obtain rfl:na=nb:=by omega
 clear hKe;have hna576:na<=576:=by omega
 have vA:VM w S (.agg #[Yv Yi (R:Int),Yv Yi (C:Int), .slice aa na ca]) {rows:=(R:Int),cols:=(C:Int),cells:=xs}:=⟨aa,na,ca,rfl,hA,by show I64 (R:Int);unfold I64;omega,by show I64 (C:Int);unfold I64;omega⟩;have vB:VM w T (.agg #[Yv Yi (R:Int),Yv Yi (C:Int), .slice ab na cb]) {rows:=(R:Int),cols:=(C:Int),cells:=ys}:=⟨ab,na,cb,rfl,hB,by show I64 (R:Int);unfold I64;omega,by show I64 (C:Int);unfold I64;omega⟩;have hbA:bdM {rows:=(R:Int),cols:=(C:Int),cells:=xs}<=1048576:=by unfold bdM;simp only;omega
 have hbB:bdM {rows:=(R:Int),cols:=(C:Int),cells:=ys}<=1048576:=by unfold bdM;simp only;omega
 have hrng:=ZrM nx ny;have Hlx:=hid hlx;have Hly:=hid hly;have q0:((R:Int)!=(R:Int))=false:=by simp
 have q1:((C:Int)!=(C:Int))=false:=by simp
 clear hlX hlY;obtain ⟨w3,hw3,hG3,bA,bB,bZ, -⟩:=al3 w #[Yv Yi (R:Int),Yv Yi (C:Int), .slice aa na ca] 34 #[Yv Yi (R:Int),Yv Yi (C:Int), .slice ab na cb] 34 #[Yv Yi 0,Yv Yi 0, .slice none 0 0] 34;obtain ⟨⟨a0,a1,a2⟩, -⟩:=bA.three;rw[hw3] at a0 a1 a2;have Hw3:=hid hw3;clear hw3 hlx hly;go_enter Tryz.func135,Tryz.ntmps135;go_wp2_with fail;rw[←Hw3.out];refine (Zz (vA.grow hG3) (by omega)).mono ?_;rintro e w4 ⟨rfl,hG4⟩;rw[HMA.out];clear a0 a1 a2;obtain ⟨⟨b0,b1,b2⟩, -⟩:=(bB.grow hG4).three;go_wp2_with fail;refine (Zz ((vB.grow hG3).grow hG4) (by omega)).mono ?_;rintro e w5 ⟨rfl,hG5⟩;rw[HMB.out];clear b0 b1 b2;have hG35:=(hG3.trans hG4).trans hG5;replace bA:=(bA.grow hG4).grow hG5;replace bB:=(bB.grow hG4).grow hG5;replace bZ:=(bZ.grow hG4).grow hG5;obtain ⟨⟨a0,a1,a2⟩, -⟩:=bA.three;obtain ⟨⟨b0,b1,b2⟩, -⟩:=bB.three;have hltA:=bA.lt;have hltB:=bB.lt;have hltZ:=bZ.lt;have hs35:=hG35.size;go_wp2_with fail;refine (ZaT (vA.grow hG35) (by omega)).mono ?_;rintro e w6 ⟨rv,rfl,hR6,hG6⟩;obtain ⟨ra,rn,rc,rfl,oR,rR,fR',i1,i2⟩:=hR6;have hrn':rn=na:=by have h1:=oR.len;have h2:=Hlx.out;simp[ints] at h1;omega
 subst hrn';obtain ⟨zs,hzs⟩: ∃ zs,zs=xs:=⟨_,rfl⟩;have Hzs:=hid (show zs.length=rn by rw[hzs];exact Hlx.out);have Hzx:=hid hzs;simp only at oR rR i1 i2;rw[←hzs] at oR;have fR: ∀ g,blk ra=some g->w5.heap.size<=g:=fun g hg=>(fR' g hg).1;obtain ⟨na,hna⟩: ∃ na,na=rn:=⟨_,rfl⟩;subst hna;clear hzs i1 i2 rR fR';have hrn:na<=576:=hna576;have bA6:=bA.grow hG6;have bB6:=bB.grow hG6;have bZ6:=bZ.grow hG6;have hG36:=hG35.trans hG6;have hlo: ∀ g,blk ra=some g->w5.heap.size<=g:=fun g hg=>fR g hg;have hlt6: ∀ g,blk ra=some g->g<w6.heap.size:=fun g hg=>oR.lt hg;have hs6:=hG6.size;obtain ⟨w7,hw7,hG7,bO7, -⟩:=al1 w6 #[Yv Yi (R:Int),Yv Yi (C:Int), .slice ra na rc] 34;have hO7:=oR.grow hG7;have bA7:=bA6.grow hG7;have bB7:=bB6.grow hG7;have bZ7:=bZ6.grow hG7;have hG37:=hG36.trans hG7;have hs7:=hG7.size;have hKR: ∀ g,g<w7.heap.size->g<w5.heap.size->blk ra≠some g:=fun g _ hg e=>by have:=hlo _ e;omega
 have rA7:=(((hA.grow hG35).weak (T:=fun g=>g<w5.heap.size) (fun g hg _=>hg)).grow hG6).grow hG7;have rB7:=(((hB.grow hG35).weak (T:=fun g=>g<w5.heap.size) (fun g hg _=>hg)).grow hG6).grow hG7;have Hw7:=hid hw7;have Had:=hid (show ZC (amV xs ys) 0 na zs=amL xs ys by unfold amL;rw[Hlx.out];exact ZoR Hzs.out);clear hw7 a0 a1 a2 b0 b1 b2 oR bA bB bZ bA6 bB6 bZ6 vA vB;go_wp2;rw[←Hw7.out];go_loopw [36] (fun q wr=>Keep (fun g=>blk ra≠some g) w7 wr/\ ∃ k:Nat,k<=na/\q=Yv Yi k/\Own wr 3 1 ra na rc (ints (ZC (amV xs ys) 0 k zs))) (fun q _=>na-(intOf q).toNat);case atStart=>exact ⟨Keep.refl _ _,0,Nat.zero_le _,rfl,hO7⟩
 case round=>
  clear hO7;obtain ⟨u,rfl⟩: ∃ u,u=wr:=⟨_,rfl⟩;obtain ⟨hKp,k,hk,rfl,hO⟩:=hrel;have bOu:=bO7.keep hKp (fun e=>by have:=hlt6 _ e;omega);have bAu:=bA7.keep hKp (fun e=>by have:=hlo _ e;omega);have bBu:=bB7.keep hKp (fun e=>by have:=hlo _ e;omega);obtain ⟨⟨o0,o1,o2⟩, -⟩:=bOu.three;have hltO:=bOu.lt;by_cases hlt:k<na
  ·obtain ⟨⟨a0,a1,a2⟩, -⟩:=bAu.three;obtain ⟨⟨b0,b1,b2⟩, -⟩:=bBu.three;have hltA':=bAu.lt;have hltB':=bBu.lt;have hlen:(ZC (amV xs ys) 0 k zs).length=na:=(by rw[ZL,Hzs.out]);have rAu:=rA7.keep hKp hKR;have rBu:=rB7.keep hKp hKR;have hx:=nx.getD k;have hy:=ny.getD k;obtain ⟨pb,rfl⟩: ∃ pb,ra=some ⟨pb,0,none⟩:=by
    cases ra with
    |none=>have:=hO.nil rfl;have:=hO.le;omega
    |some q=>exact ⟨q.block,by rw[←(hO.block q rfl).1]⟩
   have hg1:(ZC (amV xs ys) 0 k zs).getD k 0=xs.getD k 0:=(by rw[Zbc (by rw[Hzs.out];omega),if_neg (by omega),Hzx.out]);have hcx:=hO.cell (Zbg (by omega) hg1);obtain ⟨b2b,off2,y,rfl,hyy, -, -,hbw2,hcy⟩:=rBu.at hlt;obtain rfl:y=ys.getD k 0:=(by rw[List.getD_eq_getElem?_getD,hyy];rfl);have hpb:=hO.lt (g:=pb) rfl;have hfr:=hO.free k;have hle:=hO.le;have Hst:=hid (show ZC (amV xs ys) 0 (k+1) zs=(ZC (amV xs ys) 0 k zs).set k (xs.getD k 0+ys.getD k 0) by simp[ZC,amV]);have hO9:Own ((u.setCell ⟨pb,k,none⟩ (Yv Yi (xs.getD k 0+ys.getD k 0))).drew) 3 1 (some ⟨pb,0,none⟩) na rc (ints (ZC (amV xs ys) 0 (k+1) zs)):=(by have:=(hO.set k (Yv Yi (xs.getD k 0+ys.getD k 0))).grow (Grow.refl _).drew;rw[←ints_set, ←Hst.out] at this;exact this);have hK9:Keep (fun g=>blk (some (⟨pb,0,none⟩:Addr))≠some g) w7 ((u.setCell ⟨pb,k,none⟩ (Yv Yi (xs.getD k 0+ys.getD k 0))).drew):=(hKp.setCell (p:=⟨pb,k,none⟩) (fun _ e=>e rfl) _).drew;have u5:IntKind.i64.wrap (xs.getD k 0+ys.getD k 0)=xs.getD k 0+ys.getD k 0:=IntWalk.i64_in _ (by omega);clear hlen hO hyy;clear hg1;simp only at hcx hcy hfr;generalize xs.getD k 0=x at *;generalize ys.getD k 0=y at *;go_wp2;go_region;go_wp2;go_roundw;case rel=>exact ⟨hK9,k+1,by omega,by go_num,hO9⟩
   case measure=>simp[intOf];omega
  ·have hkE:k=na:=(by omega);rw[hkE,Had.out] at hO;clear hkE;have bZu:=bZ7.keep hKp (fun e=>by have:=hlo _ e;omega);have hGu:Grow w u:=Grow.keep (S:=fun g=>blk ra≠some g) hG37 hKp (fun g hg e=>by have:=hlo _ e;omega);have hsu:=hGu.size;have hOM:OM u (fun g=>w.heap.size+1+1<g/\g<u.heap.size) (.agg #[Yv Yi (R:Int),Yv Yi (C:Int), .slice ra na rc]) {rows:=(R:Int),cols:=(C:Int),cells:=amL xs ys}:=(by exact ⟨ra,na,rc,rfl,hO,hrng,(fun g hg=>⟨by have:=hlo g hg;omega,hO.lt hg⟩),by show I64 (R:Int);unfold I64;omega,by show I64 (C:Int);unfold I64;omega⟩);have hbd:bdM {rows:=(R:Int),cols:=(C:Int),cells:=amL xs ys}<=576:=(by unfold bdM;simp only;rw[Zrl];have:=Hlx.out;omega);go_wp2_with fail;refine (ZjV hOM (by omega)).mono ?_;rintro e w9 ⟨m9,rfl,hO9,hG9⟩;obtain ⟨a9,n9,c9,rfl,o9,x9,f9,i9,j9⟩:=hO9;have hs9:=hG9.size;have bZ9:=bZu.grow hG9;have hGa:=hGu.trans hG9;clear o0 o1 o2;obtain ⟨⟨z0,z1,z2⟩,g0,g1,g2⟩:=bZ9.three;have hltZ9:=bZ9.lt;go_wp2;have hle:w.heap.size<=w.heap.size+1+1:=(by omega);refine Zd Zc rfl rfl rfl (((bZ9.set 0 _).set 1 _).set 2 _) ⟨_,rfl,⟨a9,n9,c9,rfl, ?_,x9, ?_,i9,j9⟩,((hGa.setCell hle _).setCell hle _).setCell hle _⟩
   ·exact o9.keep ((((Keep.refl (fun q=>q≠w.heap.size+1+1) w9).setCell (fun _ e=>e rfl) _).setCell (fun _ e=>e rfl) _).setCell (fun _ e=>e rfl) _) (fun g hg _ e=>by have:=(f9 g hg).1;omega)
   ·intro g hg;have h1:=o9.lt hg;have h2:=(f9 g hg).1;exact ⟨by omega,by simpa using h1⟩
theorem ZsF (h:VM w S u A) (h':VM w T v B) (hb:bdM A<=1048576) (hb':bdM B<=1048576):
  Calls Tryz.prog 135 #[u,v] w fun e w'=> ∃ r,e= .returned (.tuple #[r, .bool (ZhB A B)])/\OM w' (New w w') r (amB A B)/\Grow w w':=by
 cases hF:Zgp A B with
 |false=>exact ZrN h h' hb hb' hF
 |true=>
  rw[(ZmY hF).1,(ZmY hF).2];have h1:=hF;unfold Zgp at h1;simp only[Bool.and_eq_true,beq_iff_eq] at h1;obtain ⟨g1,g2,g3,g4⟩:=h1;obtain ⟨R,C,e1,e2,hR,hC,hl,nx⟩:=Zn g1;obtain ⟨R',C',e1',e2',_,_,hl',ny⟩:=Zn g2;obtain ⟨ar,ac,xs⟩:=A;obtain ⟨br,bc,ys⟩:=B;simp only at g3 g4 e1 e2 hl nx e1' e2' hl' ny;subst e1 e2;obtain rfl:R'=R:=by omega
  obtain rfl:C'=C:=by omega
  subst g3 g4;obtain ⟨aa,na,ca,rfl,hA, -, -⟩:=h;obtain ⟨ab,nb,cb,rfl,hB, -, -⟩:=h';exact ZpR hA hB nx ny hR hC hl hl'
def trB (m:Mat):Mat:=if Ze m=true then Zd7 m else {rows:=0,cols:=0,cells:=[]}
theorem Zjz (h:VM w S v m) (hb:bdM m<=1048576):
  Calls Tryz.prog 136 #[v] w fun e w'=> ∃ r,e= .returned (.tuple #[r, .bool (Ze m)])/\OM w' (New w w') r (trB m)/\Grow w w':=by
 cases hB:Ze m with
 |true=>
  have e:trB m=Zd7 m:=by unfold trB;rw[hB];rfl
  rw[e];exact Zmr h hB
 |false=>
  have He:=hid (show trB m={rows:=0,cols:=0,cells:=[]} by unfold trB;rw[hB];rfl);have hV:=h;obtain ⟨a,n,c,rfl,h,ir,ic⟩:=h;obtain ⟨w1,hw1,hG1, -,bZ, -⟩:=al2 w #[Yv Yi m.rows,Yv Yi m.cols, .slice a n c] 34 #[Yv Yi 0,Yv Yi 0, .slice none 0 0] 34;have Hw1:=hid hw1;clear hw1 h ir ic;go_enter Tryz.func136,Tryz.ntmps136;go_wp2_with fail;rw[←Hw1.out];refine (Zz (hV.grow hG1) (by omega)).mono ?_;rintro e w2 ⟨rfl,hG2⟩;rw[hB];have hG:=hG1.trans hG2;have bZ2:=bZ.grow hG2;obtain ⟨⟨z0,z1,z2⟩,f0,f1,f2⟩:=bZ2.three;have hltZ:=bZ2.lt;have h1:w.heap.size<=w.heap.size+1:=by omega
  clear hB;go_wp2;exact Zd Zc rfl rfl rfl (((bZ2.set 0 _).set 1 _).set 2 _) ⟨_,rfl,by rw[He.out];exact ⟨none,0,0,rfl,Own.nilw,(fun _ hx=>by cases hx),(fun g hg=>by simp at hg),by unfold I64;simp,by unfold I64;simp⟩,((hG.setCell h1 _).setCell h1 _).setCell h1 _⟩
theorem Zl6 (m:Mat):bdM (trB m)<=1048576:=by
 unfold trB;split
 ·rename_i h;have:=Zfa (ZpF h);omega
 ·simp[bdM]
theorem Zkq (h:VM w S v m) (hb:bdM m<=1048576):
  Calls Tryz.prog 122 #[v] w fun e w'=>e= .returned (.bool (ZbP m))/\Grow w w':=by
 have hV:=h;obtain ⟨a,n,c,rfl,h,ir,ic⟩:=h;have hG1:=(Grow.refl w).alloc #[Yv Yi m.rows,Yv Yi m.cols, .slice a n c] 34;have bM:=Blk.new w #[Yv Yi m.rows,Yv Yi m.cols, .slice a n c] 34;go_enter Tryz.func122,Tryz.ntmps122;go_wp2_with fail;refine (Zjz (hV.grow hG1) hb).mono ?_;rintro e w2 ⟨rv,rfl,⟨ta,tn,tc,rfl,oT,rT,fT,i1,i2⟩,hG2⟩;have hs2:=(hG1.trans hG2).size;obtain ⟨w3,hw3,hG3,bT, -⟩:=al1 w2 #[Yv Yi (trB m).rows,Yv Yi (trB m).cols, .slice ta tn tc] 34;have hG:=(hG1.trans hG2).trans hG3;have bM3:=(bM.grow hG2).grow hG3;have vM:=hV.grow hG;have vT:VM w3 (fun _=>True) (.agg #[Yv Yi (trB m).rows,Yv Yi (trB m).cols, .slice ta tn tc]) (trB m):=⟨ta,tn,tc,rfl,(oT.grow hG3).rdI (fun _ _=>trivial) rT,i1,i2⟩;have Hw3:=hid hw3;have htb:=Zl6 m;clear hw3 hV h oT rT fT i1 i2;cases hB:Ze m with
 |false=>have Hr:=hid (show ZbP m=false by unfold ZbP Zas;rw[hB];rfl);clear hB;go_wp2;rw[←Hw3.out];go_ret;exact ⟨Zt Hr.out.symm,hG⟩
 |true=>
  have e:trB m=Zd7 m:=by unfold trB;rw[hB];rfl
  have He:=hid e;clear hB e;obtain ⟨⟨m0,m1,m2⟩, -⟩:=bM3.three;have hltM:=bM3.lt;rw[Hw3.out] at m0 m1 m2 hltM;go_wp2_with fail;rw[←Hw3.out];refine (Zd9 vM hb).mono ?_;rintro e w4 ⟨rfl,hG4⟩;have bM4:=bM3.grow hG4;have bT4:=bT.grow hG4;clear m0 m1 m2 hltM;obtain ⟨⟨m0,m1,m2⟩, -⟩:=bM4.three;obtain ⟨⟨t0,t1,t2⟩, -⟩:=bT4.three;have hltM:=bM4.lt;have hltT:=bT4.lt;cases hS:Zas m with
  |false=>have Hr:=hid (show ZbP m=false by unfold ZbP;rw[hS];rfl);clear hS;go_wp2;go_ret;exact ⟨Zt Hr.out.symm,hG.trans hG4⟩
  |true=>have Hr:=hid (show ZbP m=Zdj (Zd7 m) m by unfold ZbP;rw[hS];rfl);rw[←He.out] at Hr;clear hS;go_wp2_with fail;refine (ZkP (vT.grow hG4) (vM.grow hG4) (by omega)).mono ?_;rintro e w5 ⟨rfl,hG5⟩;go_wp2;go_ret;exact ⟨Zt Hr.out.symm,(hG.trans hG4).trans hG5⟩
theorem ZsN (m:Mat):ZcE m=(Zhp m&&(ldL m).all (fun d=>decide (0<d))&&ZbP m):=by
 unfold ZcE Zhp ldL ZbP;cases hS:Zas m with
 |false=>simp
 |true=>
  cases hl:ZaY m.cells m.rows.toNat m.rows.toNat with
  |none=>simp
  |some l=>simp[Bool.and_comm]
theorem Zem (h:VM w S v m) (hb:bdM m<=1048576):
  Calls Tryz.prog 119 #[v] w fun e w'=>e= .returned (.bool (ZcE m))/\Grow w w':=by
 have hV:=h;obtain ⟨a,n,c,rfl,h,ir,ic⟩:=h;have hG1:=(Grow.refl w).alloc #[Yv Yi m.rows,Yv Yi m.cols, .slice a n c] 34;have bM:=Blk.new w #[Yv Yi m.rows,Yv Yi m.cols, .slice a n c] 34;go_enter Tryz.func119,Tryz.ntmps119;go_wp2_with fail;refine (Zsf (hV.grow hG1) hb).mono ?_;rintro e w2 ⟨xv,rfl,hX,hG2⟩;obtain ⟨xa,xn,xc,rfl,rX⟩:=hX.rd (S:=fun _=>True) fun _ _=>trivial;have hG:=hG1.trans hG2;have bM2:=bM.grow hG2;have vM:=hV.grow hG;have He:=hid (ZsN m);obtain ⟨ok,hok⟩: ∃ x,Zhp m=x:=⟨_,rfl⟩;obtain ⟨l,hl⟩: ∃ x,ldL m=x:=⟨_,rfl⟩;rw[hok,hl] at He;rw[hl] at rX;rw[hok];have hxl:=rX.len;have Hxl:=hid hxl;have hmax:xn<=9223372036854775807:=by have h2:=rX.row.max;have h3:=rX.row.le;simp only[maxLen] at h2;omega
 clear hok hl hX hV h hxl;go_wp2;go_loopw [4,14] (fun ov iv wr=>Grow w2 wr/\ ∃ (k:Nat) (q:Bool),k<=xn/\iv=Yv Yi k/\ov= .bool q/\q=(ok&&(l.take k).all fun d=>decide (0<d))) (fun _ i _=>xn-(intOf i).toNat);case atStart=>exact ⟨Grow.refl _,0,ok,Nat.zero_le _,rfl,rfl,by simp⟩
 case round=>
  obtain ⟨hGr,k,q,hk,rfl,rfl,hq⟩:=hrel;by_cases hlt:k<xn
  ·obtain ⟨b1,o1,x,rfl,hxk,hxr,_,hb1,hc1⟩:=(rX.grow hGr).at hlt;have Hq:=hid (show (ok&&(l.take (k+1)).all fun d=>decide (0<d))=(q&&decide (0<x)) by rw[ZH hxk,List.all_append,hq];simp[Bool.and_assoc]);clear hq hxk;cases q with
   |false=>
    go_wp2;go_roundw;case rel=>exact ⟨hGr,k+1,false,by omega,by go_num,rfl,by rw[Hq.out];rfl⟩
    case measure=>simp[intOf];omega
   |true=>
    by_cases h0:0<x
    ·go_wp2;go_roundw;case rel=>exact ⟨hGr,k+1,true,by omega,by go_num,by simp,by rw[Hq.out];simp[h0]⟩
     case measure=>simp[intOf];omega
    ·go_wp2;go_roundw;case rel=>exact ⟨hGr,k+1,false,by omega,by go_num,by simp,by rw[Hq.out];simp;omega⟩
     case measure=>simp[intOf];omega
  ·obtain rfl:k=xn:=(by omega);rw[Z7 Hxl.out] at hq;have Hr:=hid (show ZcE m=(q&&ZbP m) by rw[He.out, ←hq]);clear hq;obtain ⟨⟨m0,m1,m2⟩, -⟩:=(bM2.grow hGr).three;have hltM:=(bM2.grow hGr).lt;cases q with
   |false=>go_wp2;go_ret;exact ⟨Zt (by rw[Hr.out];rfl),hG.trans hGr⟩
   |true=>go_wp2_with fail;refine (Zkq (vM.grow hGr) hb).mono ?_;rintro e w3 ⟨rfl,hG3⟩;go_wp2;go_ret;exact ⟨Zt (by rw[Hr.out];rfl),(hG.trans hGr).trans hG3⟩
theorem ZrR (b:Mat):ZbI b=(Ze b&&ZB b (trB b))/\(Ze b=true->ZbO b=Zu b (trB b)):=by
 unfold ZbI ZbO trB;cases h:Ze b with
 |false=>exact ⟨by simp,fun e=>by cases e⟩
 |true=>exact ⟨by simp,fun _=>by simp⟩
theorem ZkF (h:VM w S v m) (hb:bdM m<=1048576):
  Calls Tryz.prog 139 #[v] w fun e w'=> ∃ r,e= .returned (.tuple #[r, .bool (ZbI m)])/\OM w' (New w w') r (ZbO m)/\Grow w w':=by
 have hV:=h;obtain ⟨a,n,c,rfl,h,ir,ic⟩:=h;obtain ⟨w1,hw1,hG1,bM,bZ, -⟩:=al2 w #[Yv Yi m.rows,Yv Yi m.cols, .slice a n c] 34 #[Yv Yi 0,Yv Yi 0, .slice none 0 0] 34;have Hw1:=hid hw1;clear hw1;go_enter Tryz.func139,Tryz.ntmps139;go_wp2_with fail;rw[←Hw1.out];refine (Zjz (hV.grow hG1) hb).mono ?_;rintro e w2 ⟨rv,rfl,⟨ta,tn,tc,rfl,oT,rT,fT,i1,i2⟩,hG2⟩;have hs2:=(hG1.trans hG2).size;obtain ⟨w3,hw3,hG3,bT, -⟩:=al1 w2 #[Yv Yi (trB m).rows,Yv Yi (trB m).cols, .slice ta tn tc] 34;have hG:=(hG1.trans hG2).trans hG3;have bM3:=(bM.grow hG2).grow hG3;have bZ3:=(bZ.grow hG2).grow hG3;have vM:=hV.grow hG;have vT:VM w3 (fun _=>True) (.agg #[Yv Yi (trB m).rows,Yv Yi (trB m).cols, .slice ta tn tc]) (trB m):=⟨ta,tn,tc,rfl,(oT.grow hG3).rdI (fun _ _=>trivial) rT,i1,i2⟩;have Hw3:=hid hw3;have htb:=Zl6 m;have Hg:=hid (ZrR m);have h1:w.heap.size<=w.heap.size+1:=by omega
 clear hw3 hV h oT rT fT i1 i2;obtain ⟨⟨m0,m1,m2⟩, -⟩:=bM3.three;obtain ⟨⟨z0,z1,z2⟩,f0,f1,f2⟩:=bZ3.three;have hltM:=bM3.lt;have hltZ:=bZ3.lt;rw[Hw3.out] at m0 m1 m2 hltM z0 z1 z2 f0 f1 f2 hltZ;cases hB:Ze m with
 |false=>have Hr:=hid (show ZbI m=false/\ZbO m={rows:=0,cols:=0,cells:=[]} by unfold ZbI ZbO;rw[hB];exact ⟨rfl,rfl⟩);clear hB;go_wp2;rw[←Hw3.out];exact Zd Zc rfl rfl rfl (((bZ3.set 0 _).set 1 _).set 2 _) ⟨_,by rw[Hr.out.1];rfl,by rw[Hr.out.2];exact ⟨none,0,0,rfl,Own.nilw,(fun _ hx=>by cases hx),(fun g hg=>by simp at hg),by unfold I64;simp,by unfold I64;simp⟩,((hG.setCell h1 _).setCell h1 _).setCell h1 _⟩
 |true=>
  have Hr:=hid (show ZbI m=ZB m (trB m)/\ZbO m=Zu m (trB m) from ⟨by rw[Hg.out.1,hB];rfl,Hg.out.2 hB⟩);clear hB;go_wp2_with fail;rw[←Hw3.out];refine (Zcl vM vT (by omega) (by omega)).mono ?_;rintro e w4 ⟨rv,rfl,⟨pa,pn,pc,rfl,oP,rP,fP,j1,j2⟩,hG4⟩;have hs3:=hG.size;have bZ4:=bZ3.grow hG4;clear m0 m1 m2 hltM z0 z1 z2 f0 f1 f2 hltZ;obtain ⟨⟨z0,z1,z2⟩,f0,f1,f2⟩:=bZ4.three;have hltZ:=bZ4.lt;have hGf:=hG.trans hG4;generalize Zu m (trB m)=P at *;generalize ZB m (trB m)=ok at *;have hKs:Keep (fun q=>q≠w.heap.size+1) w4 (((w4.setCell ⟨w.heap.size+1,0,none⟩ (Yv Yi P.rows)).setCell ⟨w.heap.size+1,1,none⟩ (Yv Yi P.cols)).setCell ⟨w.heap.size+1,2,none⟩ (.slice pa pn pc)):=
   (((Keep.refl _ w4).setCell (fun _ e=>e rfl) _).setCell (fun _ e=>e rfl) _).setCell (fun _ e=>e rfl) _
  have hs1:w.heap.size+1<w3.heap.size:=by have:=bZ3.lt;omega
  have hOf:=oP.keep hKs fun g hg _ e=>by have:=(fP g hg).1;omega
  have hGz:=((hGf.setCell (p:=⟨w.heap.size+1,0,none⟩) h1 (Yv Yi P.rows)).setCell (p:=⟨w.heap.size+1,1,none⟩) h1 (Yv Yi P.cols)).setCell (p:=⟨w.heap.size+1,2,none⟩) h1 (.slice pa pn pc);go_wp2;exact Zd Zc rfl rfl rfl (((bZ4.set 0 _).set 1 _).set 2 _) ⟨_,by rw[Hr.out.1];rfl,by rw[Hr.out.2];exact ⟨pa,pn,pc,rfl,hOf,rP,fun g hg=>⟨by have:=(fP g hg).1;omega,hOf.lt hg⟩,j1,j2⟩,hGz⟩

end Go.Proofs.YtjpcgofidijigaaGreatDoor
