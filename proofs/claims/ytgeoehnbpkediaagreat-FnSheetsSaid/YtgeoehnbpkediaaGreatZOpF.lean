/- What an operation of a definition makes: a plain function, as the program and the reference both do it. -/
import Derived.Test.YtgeoehnbpkediaaGreatZAddM
import Derived.Test.YtgeoehnbpkediaaGreatZRedI
import Derived.Test.YtgeoehnbpkediaaGreatZDef
set_option maxHeartbeats 8000000
set_option maxRecDepth 100000
namespace Go.Proofs.YtgeoehnbpkediaaGreat
open Go.RowKit
open Lib (hid)
open Go.Value renaming int->Yv
open Go.IntKind renaming i64->Yi
variable {S:Nat->Prop} {m r:Mat} {v:Value} {w:World}
def ZcT (m:Mat):Option Mat:=if Zg m=true then (ZbE m.cells m.rows.toNat m.cols.toNat).map fun s=>{rows:=m.rows,cols:=m.cols,cells:=s.1} else none
def ZcV (m:Mat):Option Mat:=if Zg m=true then (Zen m.cells m.rows.toNat m.cols.toNat).map fun s=>{rows:=m.rows,cols:=m.cols,cells:=s.1} else none
def okF (b:Bool) (m:Mat):Option Mat:=if b=true then some m else none
def opF (op:Int) (a b:Mat):Option Mat:=
 if op=1 then okF (ZeG a b) (amB a b)
 else if op=2 then okF (Zag a b) (Zaw a b)
 else if op=3 then okF (Zg a) (trB a)
 else if op=4 then okF (Zds a) {rows:=1,cols:=1,cells:=[dtV a]}
 else if op=5 then ZcT a
 else if op=6 then ZcV a
 else if op=7 then okF (ZcW a) (Zcb a)
 else if op=8 then okF (ZaL a) (ZaD a)
 else okF (Zbz a) (Zbf a)
theorem Znd (b:Bool) (m:Mat):(okF b m).isSome=b:=by unfold okF;cases b<;>rfl
theorem ZdT {b:Bool} {x:Mat} (h:okF b m=some x):x=m:=by unfold okF at h;split at h;exact (Option.some.inj h).symm;cases h
theorem Zps (h:VM w S v m) (hb:bdM m<=1048576):
  Calls Tryz.prog 85 #[v] w fun e w'=> ∃ x1 x2 x3 x4 x5 y1 y2 y3 y4 y5,e= .returned (.tuple #[.agg #[Yv Yi x1,Yv Yi x2, .slice x3 x4 x5], .agg #[Yv Yi y1,Yv Yi y2, .slice y3 y4 y5], .bool (ZcT m).isSome])/\(∀ r,ZcT m=some r->OM w' (fun q=>w.heap.size<=q) (.agg #[Yv Yi x1,Yv Yi x2, .slice x3 x4 x5]) r)/\Grow w w':=by
 have hV:=h;obtain ⟨a,n,c,rfl,h,ir,ic⟩:=h;cases hB:Zg m with
 |false=>
  refine (ZfI hV hb hB).mono ?_;rintro e w' ⟨rfl,hG⟩;have hn:ZcT m=none:=by unfold ZcT;rw[hB];rfl
  exact ⟨_,_,_,_,_,_,_,_,_,_,by rw[hn];rfl,(fun s hs=>by rw[hn] at hs;cases hs),hG⟩
 |true=>
  obtain ⟨R,C,hmr,hmc,hR,hC,hl,hnum⟩:=ZD hB;have hE:ZcT m=(ZbE m.cells R C).map fun s=>{rows:=m.rows,cols:=m.cols,cells:=s.1}:=by unfold ZcT;rw[if_pos hB,hmr,hmc,Int.toNat_natCast,Int.toNat_natCast]
  obtain ⟨mr,mc,cells⟩:=m;simp only at hmr hmc hl hnum h hE ir ic;subst hmr;subst hmc;refine (ZgN h hl hnum hR hC).mono ?_;rintro e w' ⟨hG,hr⟩;rw[hE];rcases hr with ⟨hn,rfl⟩|⟨s,aa,ca,au,cu,hn,rfl,⟨h1,h1b,h1c⟩,h2⟩
  ·exact ⟨_,_,_,_,_,_,_,_,_,_,by rw[hn];rfl,(fun s hs=>by rw[hn] at hs;cases hs),hG⟩
  ·refine ⟨_,_,_,_,_,_,_,_,_,_,by rw[hn];rfl,fun s' hs=> ?_,hG⟩;rw[hn] at hs;obtain rfl:=Option.some.inj hs;exact ⟨aa,_,ca,rfl,h1,ZA h1c,h1b,ir,ic⟩
theorem Zou (h:VM w S v m) (hb:bdM m<=1048576):
  Calls Tryz.prog 86 #[v] w fun e w'=> ∃ x1 x2 x3 x4 x5 y1 y2 y3 y4 y5 z1 z2 z3 z4 z5,e= .returned (.tuple #[.agg #[Yv Yi x1,Yv Yi x2, .slice x3 x4 x5], .agg #[Yv Yi y1,Yv Yi y2, .slice y3 y4 y5], .agg #[Yv Yi z1,Yv Yi z2, .slice z3 z4 z5], .bool (ZcV m).isSome])/\(∀ r,ZcV m=some r->OM w' (fun q=>w.heap.size<=q) (.agg #[Yv Yi x1,Yv Yi x2, .slice x3 x4 x5]) r)/\Grow w w':=by
 have hV:=h;obtain ⟨a,n,c,rfl,h,ir,ic⟩:=h;cases hB:Zg m with
 |false=>
  refine (ZnP hV hb hB).mono ?_;rintro e w' ⟨rfl,hG⟩;have hn:ZcV m=none:=by unfold ZcV;rw[hB];rfl
  exact ⟨_,_,_,_,_,_,_,_,_,_,_,_,_,_,_,by rw[hn];rfl,(fun s hs=>by rw[hn] at hs;cases hs),hG⟩
 |true=>
  obtain ⟨R,C,hmr,hmc,hR,hC,hl,hnum⟩:=ZD hB;have hE:ZcV m=(Zen m.cells R C).map fun s=>{rows:=m.rows,cols:=m.cols,cells:=s.1}:=by unfold ZcV;rw[if_pos hB,hmr,hmc,Int.toNat_natCast,Int.toNat_natCast]
  obtain ⟨mr,mc,cells⟩:=m;simp only at hmr hmc hl hnum h hE ir ic;subst hmr;subst hmc;refine (ZmQ h hl hnum hR hC).mono ?_;rintro e w' ⟨hG,hr⟩;rw[hE];rcases hr with ⟨hn,rfl⟩|⟨s,aa,ca,ub,un,uc,vb,vn,vc,hn,rfl,⟨h1,h1b,h1c⟩⟩
  ·exact ⟨_,_,_,_,_,_,_,_,_,_,_,_,_,_,_,by rw[hn];rfl,(fun s hs=>by rw[hn] at hs;cases hs),hG⟩
  ·refine ⟨_,_,_,_,_,_,_,_,_,_,_,_,_,_,_,by rw[hn];rfl,fun s' hs=> ?_,hG⟩;rw[hn] at hs;obtain rfl:=Option.some.inj hs;exact ⟨aa,_,ca,rfl,h1,ZA h1c,h1b,ir,ic⟩
theorem Zqd (h:VM w S v m) (hb:bdM m<=1048576):
  Calls Tryz.prog 89 #[v] w fun e w'=> ∃ x1 x2 x3 x4 x5 y1 y2 y3 y4 y5,e= .returned (.tuple #[.agg #[Yv Yi x1,Yv Yi x2, .slice x3 x4 x5], .agg #[Yv Yi y1,Yv Yi y2, .slice y3 y4 y5], .bool (okF (Zbz m) (Zbf m)).isSome])/\(∀ r,okF (Zbz m) (Zbf m)=some r->OM w' (fun q=>w.heap.size<=q) (.agg #[Yv Yi x1,Yv Yi x2, .slice x3 x4 x5]) r)/\Grow w w':=by
 refine (ZpU h hb).mono ?_;rintro e w' ⟨rv,y1,y2,y3,y4,y5,rfl,⟨ra,rn,rc,rfl,oR,rR,fR,i1,i2⟩,hG⟩;exact ⟨_,_,_,_,_,_,_,_,_,_,by rw[Znd],fun r hr=>by rw[ZdT hr];exact ⟨ra,rn,rc,rfl,oR,rR,fun g hg=>(fR g hg).1,i1,i2⟩,hG⟩
theorem Zpr (m:Mat):I64 (dtV m):=by
 unfold dtV I64;split
 ·cases h:Zak m.rows.toNat m.cells with
  |none=>simp
  |some d=>have:=Zcy h;simp only[Option.getD_some];omega
 ·omega
def Zm1 (r:Option Mat) (w:World) (e:Ending) (w':World):Prop:= ∃ x y a n c,e= .returned (.tuple #[.agg #[Yv Yi x,Yv Yi y, .slice a n c], .bool r.isSome])/\(∀ m,r=some m->OM w' (fun q=>w.heap.size<=q) (.agg #[Yv Yi x,Yv Yi y, .slice a n c]) m)/\Grow w w'
theorem Zmx {T U:Nat->Prop} {dv u:Value} {d:Dfn} {A B:Mat} (hd:VD w U dv d) (h:VM w S u A) (h':VM w T v B) (hb:bdM A<=1048576) (hb':bdM B<=1048576):
  Calls Tryz.prog 64 #[dv,u,v] w (Zm1 (opF d.op A B) w):=by
 have vA:=h;have vB:=h';obtain ⟨da,dn,dc,rfl, -⟩:=hd;obtain ⟨aa,na,ca,rfl, -⟩:=h;obtain ⟨ab,nb,cb,rfl, -⟩:=h';obtain ⟨w1,hw1,hG, -,bA,bB,bZ, -⟩:=al4 w #[.string d.name,Yv Yi d.op, .string d.a, .string d.b,Yv Yi d.value.rows,Yv Yi d.value.cols, .slice da dn dc] 30 #[Yv Yi A.rows,Yv Yi A.cols, .slice aa na ca] 28 #[Yv Yi B.rows,Yv Yi B.cols, .slice ab nb cb] 28 #[Yv Yi 0,Yv Yi 0, .slice none 0 0] 28;have Hw1:=hid hw1;have HR:=hid (show opF d.op A B=opF d.op A B from rfl);replace vA:=vA.grow hG;replace vB:=vB.grow hG;obtain ⟨res,hres⟩: ∃ x,x=opF d.op A B:=⟨_,rfl⟩;rw[←hres];obtain ⟨op,hop⟩: ∃ x,x=d.op:=⟨_,rfl⟩;rw[←hop] at hres hw1 Hw1 ⊢;clear HR hw1;have HR:=hid hres;obtain ⟨⟨a0,a1,a2⟩, -⟩:=bA.three;obtain ⟨⟨b0,b1,b2⟩, -⟩:=bB.three;have hltA:=bA.lt;have hltB:=bB.lt;rw[Hw1.out] at a0 a1 a2 b0 b1 b2 hltA hltB;clear hres hop;unfold Zm1;by_cases h0:op=1\/op=2\/op=3\/op=7\/op=8
 ·rcases h0 with rfl|rfl|rfl|rfl|rfl
  case' inl=>have HC:=Zqe vA vB hb hb';have HE:=hid (show res=okF (ZeG A B) (amB A B) by rw[HR.out];rfl)
  case' inr.inl=>have HC:=Zhb vA vB (by omega) (by omega);have HE:=hid (show res=okF (Zag A B) (Zaw A B) by rw[HR.out];rfl)
  case' inr.inr.inl=>have HC:=ZiP vA hb;have HE:=hid (show res=okF (Zg A) (trB A) by rw[HR.out];rfl)
  case' inr.inr.inr.inl=>have HC:=Zlp vA hb;have HE:=hid (show res=okF (ZcW A) (Zcb A) by rw[HR.out];rfl)
  case' inr.inr.inr.inr=>have HC:=Zi0 vA hb;have HE:=hid (show res=okF (ZaL A) (ZaD A) by rw[HR.out];rfl)
  all_goals
   replace HC:=hid HC;go_enter Tryz.func64,Tryz.ntmps64;go_wp2_with fail;rw[←Hw1.out];refine HC.out.mono ?_;rintro e w2 ⟨rv,rfl,⟨ra,rn,rc,rfl,oR,rR,fR,i1,i2⟩,hG2⟩;have hs1:w.heap.size+1+1+1<w1.heap.size:=bZ.lt;replace bZ:=bZ.grow hG2;replace hG:=hG.trans hG2;clear HC a0 a1 a2 b0 b1 b2 hltA hltB bA bB;have hle:w.heap.size<=w.heap.size+1+1+1:=(by omega);have hKs: ∀ x y z,Keep (fun q=>q≠w.heap.size+1+1+1) w2 (((w2.setCell ⟨w.heap.size+1+1+1,0,none⟩ x).setCell ⟨w.heap.size+1+1+1,1,none⟩ y).setCell ⟨w.heap.size+1+1+1,2,none⟩ z):=fun x y z=>
    (((Keep.refl _ w2).setCell (fun _ e=>e rfl) _).setCell (fun _ e=>e rfl) _).setCell (fun _ e=>e rfl) _
   have HKs:=hid hKs;clear hKs;obtain ⟨⟨z0,z1,z2⟩,g0,g1,g2⟩:=bZ.three;have hltZ:=bZ.lt;go_wp2;exact Zf Zb rfl rfl rfl (((bZ.set 0 _).set 1 _).set 2 _) ⟨_,_,_,_,_,by rw[HE.out,Znd];rfl,fun m hm=>by rw[HE.out] at hm;rw[ZdT hm];exact ⟨ra,rn,rc,rfl,oR.keep (HKs.out _ _ _) (fun g hg _ e=>by have:=(fR g hg).1;omega),rR,(fun g hg=>by have:=(fR g hg).1;omega),i1,i2⟩,((hG.setCell hle _).setCell hle _).setCell hle _⟩
 by_cases h4:op=4
 ·subst h4;go_enter Tryz.func64,Tryz.ntmps64;go_wp2_with fail;rw[←Hw1.out];refine (Zok vA hb).mono ?_;rintro e w2 ⟨rfl,hG2⟩;have HE:=hid (show res=okF (Zds A) {rows:=1,cols:=1,cells:=[dtV A]} by rw[HR.out];rfl);replace bZ:=bZ.grow hG2;replace hG:=hG.trans hG2;have hs1:w.heap.size+1+1+1<w2.heap.size:=bZ.lt;have hdr:=Zpr A;clear a0 a1 a2 b0 b1 b2 hltA hltB bA bB;cases hok:Zds A with
  |false=>
   have HE2:=hid (show res=none by rw[HE.out,hok];rfl);clear hok HE;have hle:w.heap.size<=w.heap.size+1+1+1:=(by omega);have hKs: ∀ x y z,Keep (fun q=>q≠w.heap.size+1+1+1) w2 (((w2.setCell ⟨w.heap.size+1+1+1,0,none⟩ x).setCell ⟨w.heap.size+1+1+1,1,none⟩ y).setCell ⟨w.heap.size+1+1+1,2,none⟩ z):=fun x y z=>
    (((Keep.refl _ w2).setCell (fun _ e=>e rfl) _).setCell (fun _ e=>e rfl) _).setCell (fun _ e=>e rfl) _
   have HKs:=hid hKs;clear hKs;obtain ⟨⟨z0,z1,z2⟩,g0,g1,g2⟩:=bZ.three;have hltZ:=bZ.lt;go_wp2;exact Zf Zb rfl rfl rfl (((bZ.set 0 _).set 1 _).set 2 _) ⟨_,_,_,_,_,by rw[HE2.out];rfl,(fun m hm=>by rw[HE2.out] at hm;cases hm),((hG.setCell hle _).setCell hle _).setCell hle _⟩
  |true=>
   have HE2:=hid (show res=some {rows:=1,cols:=1,cells:=[dtV A]} by rw[HE.out,hok];rfl);clear hok HE;generalize dtV A=dv at *;have hle:w.heap.size<=w.heap.size+1+1+1:=(by omega);have hKs: ∀ x y z,Keep (fun q=>q≠w.heap.size+1+1+1) w2 (((w2.setCell ⟨w.heap.size+1+1+1,0,none⟩ x).setCell ⟨w.heap.size+1+1+1,1,none⟩ y).setCell ⟨w.heap.size+1+1+1,2,none⟩ z):=fun x y z=>
    (((Keep.refl _ w2).setCell (fun _ e=>e rfl) _).setCell (fun _ e=>e rfl) _).setCell (fun _ e=>e rfl) _
   have HKs:=hid hKs;clear hKs;obtain ⟨⟨z0,z1,z2⟩,g0,g1,g2⟩:=bZ.three;have hltZ:=bZ.lt;go_wp2;have oD: ∀ x y z,Own ((((w2.setCell ⟨w.heap.size+1+1+1,0,none⟩ x).setCell ⟨w.heap.size+1+1+1,1,none⟩ y).setCell ⟨w.heap.size+1+1+1,2,none⟩ z).alloc (.cells #[Yv Yi dv] 3)) 3 1 (some ⟨w2.heap.size,0,none⟩) 1 1 (ints [dv]):=fun x y z=>Own.freshAt (by simp) (by unfold maxLen;omega) rfl;exact Zf Zb rfl rfl rfl ((((bZ.set 0 _).set 1 _).set 2 _).alloc _) ⟨_,_,_,_,_,by rw[HE2.out];rfl,(fun m hm=>by rw[HE2.out] at hm;rw[←Option.some.inj hm];exact ⟨_,1,1,rfl,oD _ _ _,(fun x hx=>by rw[List.mem_singleton.1 hx];exact hdr),(fun q hq=>by have:=Option.some.inj hq;simp only at this;omega),by unfold I64;simp,by unfold I64;simp⟩),(((hG.setCell hle _).setCell hle _).setCell hle _).alloc _ _⟩
 have hx:op=5\/op=6\/ ¬ (op=1\/op=2\/op=3\/op=4\/op=5\/op=6\/op=7\/op=8):=by omega
 clear h0 h4;rcases hx with rfl|rfl|h5
 case' inl=>have HC:=Zps vA hb;have HE:=hid (show res=ZcT A by rw[HR.out];rfl)
 case' inr.inl=>have HC:=Zou vA hb;have HE:=hid (show res=ZcV A by rw[HR.out];rfl)
 case' inr.inr=>
  simp only[not_or] at h5;obtain ⟨h1,h2,h3,h4,h5,h6,h7,h8⟩:=h5;have q1:(op==1)=false:=by simp[h1]
  have q2:(op==2)=false:=by simp[h2]
  have q3:(op==3)=false:=by simp[h3]
  have q4:(op==4)=false:=by simp[h4]
  have q5:(op==5)=false:=by simp[h5]
  have q6:(op==6)=false:=by simp[h6]
  have q7:(op==7)=false:=by simp[h7]
  have q8:(op==8)=false:=by simp[h8]
  have HC:=Zqd vA hb;have HE:=hid (show res=okF (Zbz A) (Zbf A) by rw[HR.out];unfold opF;rw[if_neg h1,if_neg h2,if_neg h3,if_neg h4,if_neg h5,if_neg h6,if_neg h7,if_neg h8]);clear HR h1 h2 h3 h4 h5 h6 h7 h8
 all_goals
  replace HC:=hid HC;go_enter Tryz.func64,Tryz.ntmps64;go_wp2_with fail;rw[←Hw1.out];refine HC.out.mono ?_;clear HC;first
   |rintro e w2 ⟨x1,x2,x3,x4,x5,y1,y2,y3,y4,y5,rfl,hr,hG2⟩
   |rintro e w2 ⟨x1,x2,x3,x4,x5,y1,y2,y3,y4,y5,k1,k2,k3,k4,k5,rfl,hr,hG2⟩
  have hs1:w.heap.size+1+1+1<w1.heap.size:=bZ.lt;replace bZ:=bZ.grow hG2;replace hG:=hG.trans hG2;clear a0 a1 a2 b0 b1 b2 hltA hltB bA bB;obtain ⟨w3,hw3,hG3,bX, -, -⟩:=al2 w2 #[Yv Yi x1,Yv Yi x2, .slice x3 x4 x5] 28 #[Yv Yi y1,Yv Yi y2, .slice y3 y4 y5] 28;replace bZ:=bZ.grow hG3;replace hG:=hG.trans hG3;have Hr:=hid fun r h=>(hr r h).grow hG3;rw[hw3] at bX bZ hG Hr;clear hr hw3 hG3 hG2
  try
   have hG4:=(Grow.refl ((w2.alloc (.cells #[Yv Yi x1,Yv Yi x2, .slice x3 x4 x5] 28)).alloc (.cells #[Yv Yi y1,Yv Yi y2, .slice y3 y4 y5] 28))).alloc #[Yv Yi k1,Yv Yi k2, .slice k3 k4 k5] 28;replace bX:=bX.grow hG4;replace bZ:=bZ.grow hG4;replace hG:=hG.trans hG4;replace Hr:=hid fun r h=>(Hr.out r h).grow hG4;clear hG4
  obtain ⟨⟨e0,e1,e2⟩, -⟩:=bX.three;have hltX:=bX.lt;have hle:w.heap.size<=w.heap.size+1+1+1:=by omega
  have hKs: ∀ (u:World) x y z,Keep (fun q=>q≠w.heap.size+1+1+1) u (((u.setCell ⟨w.heap.size+1+1+1,0,none⟩ x).setCell ⟨w.heap.size+1+1+1,1,none⟩ y).setCell ⟨w.heap.size+1+1+1,2,none⟩ z):=fun u x y z=>
   (((Keep.refl _ u).setCell (fun _ e=>e rfl) _).setCell (fun _ e=>e rfl) _).setCell (fun _ e=>e rfl) _
  have HKs:=hid hKs;clear hKs;obtain ⟨⟨z0,z1,z2⟩,g0,g1,g2⟩:=bZ.three;have hltZ:=bZ.lt;go_wp2;exact Zf Zb rfl rfl rfl (((bZ.set 0 _).set 1 _).set 2 _) ⟨_,_,_,_,_,by rw[HE.out];rfl,fun m hm=>by rw[HE.out] at hm;exact ((Hr.out m hm).keep (HKs.out _ _ _ _) (fun g _ hg=>by omega)).weak fun q _ hq=>by omega,((hG.setCell hle _).setCell hle _).setCell hle _⟩
theorem ZpE (h:ZcT m=some r):bdM r<=1048576:=by
 unfold ZcT at h;split at h
 ·obtain ⟨R,C,hmr,hmc,hR,hC,hl,hnum⟩:=ZD (by assumption);rw[hmr,hmc,Int.toNat_natCast,Int.toNat_natCast] at h;cases hs:ZbE m.cells R C with
  |none=>rw[hs] at h;cases h
  |some s=>rw[hs,Option.map_some] at h;rw[←Option.some.inj h];have h1:=(Zb2 hl hnum hs).1.la;have h2:R*C<=24*24:=Nat.mul_le_mul hR hC;unfold bdM;simp only;omega
 ·cases h
theorem Zp7 (h:ZcV m=some r):bdM r<=1048576:=by
 unfold ZcV at h;split at h
 ·obtain ⟨R,C,hmr,hmc,hR,hC,hl,hnum⟩:=ZD (by assumption);rw[hmr,hmc,Int.toNat_natCast,Int.toNat_natCast] at h;cases hs:Zen m.cells R C with
  |none=>rw[hs] at h;cases h
  |some s=>rw[hs,Option.map_some] at h;rw[←Option.some.inj h];have h1:=(Zik hl hnum hs).la;have h2:R*C<=24*24:=Nat.mul_le_mul hR hC;unfold bdM;simp only;omega
 ·cases h
theorem ZoQ (m:Mat):bdM (Zbf m)<=1048576:=by
 unfold Zbf;split
 ·split
  ·exact ZeZ _ _
  ·simp[bdM]
 ·simp[bdM]
theorem ZnB {op:Int} {a b:Mat} (h:opF op a b=some r):bdM r<=1048576:=by
 unfold opF at h;split at h
 ·rw[ZdT h];unfold amB;split;exact Nat.le_trans Zql (by decide);simp[bdM]
 split at h
 ·rw[ZdT h];exact ZeZ _ _
 split at h
 ·rw[ZdT h];exact ZkX _
 split at h
 ·rw[ZdT h];simp[bdM]
 split at h
 ·exact ZpE h
 split at h
 ·exact Zp7 h
 split at h
 ·rw[ZdT h];have:=ZpR a;omega
 split at h
 ·rw[ZdT h];exact ZhS _
 ·rw[ZdT h];exact ZoQ _

end Go.Proofs.YtgeoehnbpkediaaGreat
