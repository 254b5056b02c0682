/- What an operation of a definition makes: a plain function, as the program and the reference both do it. -/
import Derived.Test.YtgeoehnbpkediaaGreatZAddM
import Derived.Test.YtgeoehnbpkediaaGreatZRedI
import Derived.Test.YtgeoehnbpkediaaGreatZDef
set_option maxHeartbeats 8000000
set_option maxRecDepth 100000
namespace Go.Proofs.YtgeoehnbpkediaaGreat
open Go.RowKit
open Lib (hid)
open Go.Value renaming int->Yv
open Go.IntKind renaming i64->Yi
variable {S:Nat->Prop} {m r:Mat} {v:Value} {w:World}
def Zcs (m:Mat):Option Mat:=if Zg m=true then (Zbv m.cells m.rows.toNat m.cols.toNat).map fun s=>{rows:=m.rows,cols:=m.cols,cells:=s.1} else none
def Zcr (m:Mat):Option Mat:=if Zg m=true then (Zd1 m.cells m.rows.toNat m.cols.toNat).map fun s=>{rows:=m.rows,cols:=m.cols,cells:=s.1} else none
def okF (b:Bool) (m:Mat):Option Mat:=if b=true then some m else none
def opF (op:Int) (a b:Mat):Option Mat:=
 if op=1 then okF (Zed a b) (amB a b)
 else if op=2 then okF (Zad a b) (Zax a b)
 else if op=3 then okF (Zg a) (trB a)
 else if op=4 then okF (Zc7 a) {rows:=1,cols:=1,cells:=[dtV a]}
 else if op=5 then Zcs a
 else if op=6 then Zcr a
 else if op=7 then okF (Zcx a) (ZbX a)
 else if op=8 then okF (ZaK a) (ZaE a)
 else okF (Zbh a) (Za1 a)
theorem Zfn (b:Bool) (m:Mat):(okF b m).isSome=b:=by unfold okF;cases b<;>rfl
theorem Zb7 {b:Bool} {x:Mat} (h:okF b m=some x):x=m:=by unfold okF at h;split at h;exact (Option.some.inj h).symm;cases h
theorem Zo5 (h:Zcs m=some r):bdM r<=1048576:=by
 unfold Zcs at h
 split at h
 ·obtain ⟨R,C,hmr,hmc,hR,hC,hl,hnum⟩:=ZF (by assumption)
  rw[hmr,hmc,Int.toNat_natCast,Int.toNat_natCast] at h
  cases hs:Zbv m.cells R C with
  |none=>rw[hs] at h;cases h
  |some s=>
   rw[hs,Option.map_some] at h
   rw[←Option.some.inj h]
   have h1:=(ZbQ hl hnum hs).1.la
   have h2:R*C<=24*24:=Nat.mul_le_mul hR hC
   unfold bdM;simp only;omega
 ·cases h
theorem ZoO (h:Zcr m=some r):bdM r<=1048576:=by
 unfold Zcr at h
 split at h
 ·obtain ⟨R,C,hmr,hmc,hR,hC,hl,hnum⟩:=ZF (by assumption)
  rw[hmr,hmc,Int.toNat_natCast,Int.toNat_natCast] at h
  cases hs:Zd1 m.cells R C with
  |none=>rw[hs] at h;cases h
  |some s=>
   rw[hs,Option.map_some] at h
   rw[←Option.some.inj h]
   have h1:=(Zh5 hl hnum hs).la
   have h2:R*C<=24*24:=Nat.mul_le_mul hR hC
   unfold bdM;simp only;omega
 ·cases h
theorem Znr (m:Mat):bdM (Za1 m)<=1048576:=by
 unfold Za1
 split
 ·split
  ·exact ZeC _ _
  ·simp[bdM]
 ·simp[bdM]
theorem ZjT {op:Int} {a b:Mat} (h:opF op a b=some r):bdM r<=1048576:=by
 unfold opF at h
 split at h
 ·rw[Zb7 h];unfold amB;split;exact Nat.le_trans Zpr (by decide);simp[bdM]
 split at h
 ·rw[Zb7 h];exact ZeC _ _
 split at h
 ·rw[Zb7 h];exact ZjL _
 split at h
 ·rw[Zb7 h];simp[bdM]
 split at h
 ·exact Zo5 h
 split at h
 ·exact ZoO h
 split at h
 ·rw[Zb7 h];have:=ZoZ a;omega
 split at h
 ·rw[Zb7 h];exact Zhl _
 ·rw[Zb7 h];exact Znr _
theorem Zo0 (h:VM w S v m) (hb:bdM m<=1048576):
  Calls Tryz.prog 85 #[v] w fun e w'=> ∃ x1 x2 x3 x4 x5 y1 y2 y3 y4 y5,e= .returned (.tuple #[.agg #[Yv Yi x1,Yv Yi x2, .slice x3 x4 x5], .agg #[Yv Yi y1,Yv Yi y2, .slice y3 y4 y5], .bool (Zcs m).isSome])/\(∀ r,Zcs m=some r->OM w' (fun q=>w.heap.size<=q) (.agg #[Yv Yi x1,Yv Yi x2, .slice x3 x4 x5]) r)/\Grow w w':=by
 have hV:=h
 obtain ⟨a,n,c,rfl,h,ir,ic⟩:=h
 cases hB:Zg m with
 |false=>
  refine (Zfc hV hb hB).mono ?_
  rintro e w' ⟨rfl,hG⟩
  have hn:Zcs m=none:=by unfold Zcs;rw[hB];rfl
  exact ⟨_,_,_,_,_,_,_,_,_,_,by rw[hn];rfl,(fun s hs=>by rw[hn] at hs;cases hs),hG⟩
 |true=>
  obtain ⟨R,C,hmr,hmc,hR,hC,hl,hnum⟩:=ZF hB
  have hE:Zcs m=(Zbv m.cells R C).map fun s=>{rows:=m.rows,cols:=m.cols,cells:=s.1}:=by unfold Zcs;rw[if_pos hB,hmr,hmc,Int.toNat_natCast,Int.toNat_natCast]
  obtain ⟨mr,mc,cells⟩:=m
  simp only at hmr hmc hl hnum h hE ir ic
  subst hmr
  subst hmc
  refine (ZgE h hl hnum hR hC).mono ?_
  rintro e w' ⟨hG,hr⟩
  rw[hE]
  rcases hr with ⟨hn,rfl⟩|⟨s,aa,ca,au,cu,hn,rfl,⟨h1,h1b,h1c⟩,h2⟩
  ·exact ⟨_,_,_,_,_,_,_,_,_,_,by rw[hn];rfl,(fun s hs=>by rw[hn] at hs;cases hs),hG⟩
  ·refine ⟨_,_,_,_,_,_,_,_,_,_,by rw[hn];rfl,fun s' hs=> ?_,hG⟩
   rw[hn] at hs
   obtain rfl:=Option.some.inj hs
   exact ⟨aa,_,ca,rfl,h1,ZC h1c,h1b,ir,ic⟩
theorem Zn9 (h:VM w S v m) (hb:bdM m<=1048576):
  Calls Tryz.prog 86 #[v] w fun e w'=> ∃ x1 x2 x3 x4 x5 y1 y2 y3 y4 y5 z1 z2 z3 z4 z5,e= .returned (.tuple #[.agg #[Yv Yi x1,Yv Yi x2, .slice x3 x4 x5], .agg #[Yv Yi y1,Yv Yi y2, .slice y3 y4 y5], .agg #[Yv Yi z1,Yv Yi z2, .slice z3 z4 z5], .bool (Zcr m).isSome])/\(∀ r,Zcr m=some r->OM w' (fun q=>w.heap.size<=q) (.agg #[Yv Yi x1,Yv Yi x2, .slice x3 x4 x5]) r)/\Grow w w':=by
 have hV:=h
 obtain ⟨a,n,c,rfl,h,ir,ic⟩:=h
 cases hB:Zg m with
 |false=>
  refine (Zmn hV hb hB).mono ?_
  rintro e w' ⟨rfl,hG⟩
  have hn:Zcr m=none:=by unfold Zcr;rw[hB];rfl
  exact ⟨_,_,_,_,_,_,_,_,_,_,_,_,_,_,_,by rw[hn];rfl,(fun s hs=>by rw[hn] at hs;cases hs),hG⟩
 |true=>
  obtain ⟨R,C,hmr,hmc,hR,hC,hl,hnum⟩:=ZF hB
  have hE:Zcr m=(Zd1 m.cells R C).map fun s=>{rows:=m.rows,cols:=m.cols,cells:=s.1}:=by unfold Zcr;rw[if_pos hB,hmr,hmc,Int.toNat_natCast,Int.toNat_natCast]
  obtain ⟨mr,mc,cells⟩:=m
  simp only at hmr hmc hl hnum h hE ir ic
  subst hmr
  subst hmc
  refine (ZlC h hl hnum hR hC).mono ?_
  rintro e w' ⟨hG,hr⟩
  rw[hE]
  rcases hr with ⟨hn,rfl⟩|⟨s,aa,ca,ub,un,uc,vb,vn,vc,hn,rfl,⟨h1,h1b,h1c⟩⟩
  ·exact ⟨_,_,_,_,_,_,_,_,_,_,_,_,_,_,_,by rw[hn];rfl,(fun s hs=>by rw[hn] at hs;cases hs),hG⟩
  ·refine ⟨_,_,_,_,_,_,_,_,_,_,_,_,_,_,_,by rw[hn];rfl,fun s' hs=> ?_,hG⟩
   rw[hn] at hs
   obtain rfl:=Option.some.inj hs
   exact ⟨aa,_,ca,rfl,h1,ZC h1c,h1b,ir,ic⟩
theorem Zpk (h:VM w S v m) (hb:bdM m<=1048576):
  Calls Tryz.prog 89 #[v] w fun e w'=> ∃ x1 x2 x3 x4 x5 y1 y2 y3 y4 y5,e= .returned (.tuple #[.agg #[Yv Yi x1,Yv Yi x2, .slice x3 x4 x5], .agg #[Yv Yi y1,Yv Yi y2, .slice y3 y4 y5], .bool (okF (Zbh m) (Za1 m)).isSome])/\(∀ r,okF (Zbh m) (Za1 m)=some r->OM w' (fun q=>w.heap.size<=q) (.agg #[Yv Yi x1,Yv Yi x2, .slice x3 x4 x5]) r)/\Grow w w':=by
 refine (Zos h hb).mono ?_
 rintro e w' ⟨rv,y1,y2,y3,y4,y5,rfl,⟨ra,rn,rc,rfl,oR,rR,fR,i1,i2⟩,hG⟩
 exact ⟨_,_,_,_,_,_,_,_,_,_,by rw[Zfn],fun r hr=>by rw[Zb7 hr];exact ⟨ra,rn,rc,rfl,oR,rR,fun g hg=>(fR g hg).1,i1,i2⟩,hG⟩
theorem ZoD (m:Mat):I64 (dtV m):=by
 unfold dtV I64
 split
 ·cases h:Zak m.rows.toNat m.cells with
  |none=>simp
  |some d=>have:=Zcg h;simp only[Option.getD_some];omega
 ·omega
def ZmJ (r:Option Mat) (w:World) (e:Ending) (w':World):Prop:= ∃ x y a n c,e= .returned (.tuple #[.agg #[Yv Yi x,Yv Yi y, .slice a n c], .bool r.isSome])/\(∀ m,r=some m->OM w' (fun q=>w.heap.size<=q) (.agg #[Yv Yi x,Yv Yi y, .slice a n c]) m)/\Grow w w'
theorem ZlO {T U:Nat->Prop} {dv u:Value} {d:Dfn} {A B:Mat} (hd:VD w U dv d) (h:VM w S u A) (h':VM w T v B) (hb:bdM A<=1048576) (hb':bdM B<=1048576):
  Calls Tryz.prog 64 #[dv,u,v] w (ZmJ (opF d.op A B) w):=by
 have vA:=h
 have vB:=h'
 obtain ⟨da,dn,dc,rfl, -⟩:=hd
 obtain ⟨aa,na,ca,rfl, -⟩:=h
 obtain ⟨ab,nb,cb,rfl, -⟩:=h'
 obtain ⟨w1,hw1⟩: ∃ z,z=(((w.alloc (.cells #[.string d.name,Yv Yi d.op, .string d.a, .string d.b,Yv Yi d.value.rows,Yv Yi d.value.cols, .slice da dn dc] 30)).alloc (.cells #[Yv Yi A.rows,Yv Yi A.cols, .slice aa na ca] 28)).alloc (.cells #[Yv Yi B.rows,Yv Yi B.cols, .slice ab nb cb] 28)).alloc (.cells #[Yv Yi 0,Yv Yi 0, .slice none 0 0] 28):=⟨_,rfl⟩
 have hG:Grow w w1:=by rw[hw1];exact ((((Grow.refl w).alloc _ _).alloc _ _).alloc _ _).alloc _ _
 have bA:Blk w1 (w.heap.size+1) #[Yv Yi A.rows,Yv Yi A.cols, .slice aa na ca] 28:=by rw[hw1];exact ((Blk.newAt _ _ _ (by simp)).alloc _).alloc _
 have bB:Blk w1 (w.heap.size+1+1) #[Yv Yi B.rows,Yv Yi B.cols, .slice ab nb cb] 28:=by rw[hw1];exact (Blk.newAt _ _ _ (by simp)).alloc _
 have bZ:Blk w1 (w.heap.size+1+1+1) #[Yv Yi 0,Yv Yi 0, .slice none 0 0] 28:=by rw[hw1];exact Blk.newAt _ _ _ (by simp)
 have Hw1:=hid hw1
 have HR:=hid (show opF d.op A B=opF d.op A B from rfl)
 replace vA:=vA.grow hG
 replace vB:=vB.grow hG
 obtain ⟨res,hres⟩: ∃ x,x=opF d.op A B:=⟨_,rfl⟩
 rw[←hres]
 obtain ⟨op,hop⟩: ∃ x,x=d.op:=⟨_,rfl⟩
 rw[←hop] at hres hw1 Hw1 ⊢
 clear HR hw1
 have HR:=hid hres
 obtain ⟨⟨a0,a1,a2⟩, -⟩:=bA.three
 obtain ⟨⟨b0,b1,b2⟩, -⟩:=bB.three
 have hltA:=bA.lt
 have hltB:=bB.lt
 rw[Hw1.out] at a0 a1 a2 b0 b1 b2 hltA hltB
 clear hres hop
 unfold ZmJ
 by_cases h1:op=1
 ·subst h1
  go_enter Tryz.func64,Tryz.ntmps64
  go_wp2_with fail
  rw[←Hw1.out]
  refine (Zpp vA vB hb hb').mono ?_
  rintro e w2 ⟨rv,rfl,⟨ra,rn,rc,rfl,oR,rR,fR,i1,i2⟩,hG2⟩
  have HE:=hid (show res=okF (Zed A B) (amB A B) by rw[HR.out];rfl)
  have hs1:w.heap.size+1+1+1<w1.heap.size:=bZ.lt
  replace bZ:=bZ.grow hG2
  replace hG:=hG.trans hG2
  clear a0 a1 a2 b0 b1 b2 hltA hltB bA bB
  have hle:w.heap.size<=w.heap.size+1+1+1:=by omega
  have hKs: ∀ x y z,Keep (fun q=>q≠w.heap.size+1+1+1) w2 (((w2.setCell ⟨w.heap.size+1+1+1,0,none⟩ x).setCell ⟨w.heap.size+1+1+1,1,none⟩ y).setCell ⟨w.heap.size+1+1+1,2,none⟩ z):=fun x y z=>
   (((Keep.refl _ w2).setCell (fun _ e=>e rfl) _).setCell (fun _ e=>e rfl) _).setCell (fun _ e=>e rfl) _
  have HKs:=hid hKs
  clear hKs
  obtain ⟨⟨z0,z1,z2⟩,g0,g1,g2⟩:=bZ.three
  have hltZ:=bZ.lt
  go_wp2
  exact Zf Za rfl rfl rfl (((bZ.set 0 _).set 1 _).set 2 _) ⟨_,_,_,_,_,by rw[HE.out,Zfn];rfl,fun m hm=>by rw[HE.out] at hm;rw[Zb7 hm];exact ⟨ra,rn,rc,rfl,oR.keep (HKs.out _ _ _) (fun g hg _ e=>by have:=(fR g hg).1;omega),rR,(fun g hg=>by have:=(fR g hg).1;omega),i1,i2⟩,((hG.setCell hle _).setCell hle _).setCell hle _⟩
 by_cases h2:op=2
 ·subst h2
  go_enter Tryz.func64,Tryz.ntmps64
  go_wp2_with fail
  rw[←Hw1.out]
  refine (Zgy vA vB (by omega) (by omega)).mono ?_
  rintro e w2 ⟨rv,rfl,⟨ra,rn,rc,rfl,oR,rR,fR,i1,i2⟩,hG2⟩
  have HE:=hid (show res=okF (Zad A B) (Zax A B) by rw[HR.out];rfl)
  have hs1:w.heap.size+1+1+1<w1.heap.size:=bZ.lt
  replace bZ:=bZ.grow hG2
  replace hG:=hG.trans hG2
  clear a0 a1 a2 b0 b1 b2 hltA hltB bA bB
  have hle:w.heap.size<=w.heap.size+1+1+1:=by omega
  have hKs: ∀ x y z,Keep (fun q=>q≠w.heap.size+1+1+1) w2 (((w2.setCell ⟨w.heap.size+1+1+1,0,none⟩ x).setCell ⟨w.heap.size+1+1+1,1,none⟩ y).setCell ⟨w.heap.size+1+1+1,2,none⟩ z):=fun x y z=>
   (((Keep.refl _ w2).setCell (fun _ e=>e rfl) _).setCell (fun _ e=>e rfl) _).setCell (fun _ e=>e rfl) _
  have HKs:=hid hKs
  clear hKs
  obtain ⟨⟨z0,z1,z2⟩,g0,g1,g2⟩:=bZ.three
  have hltZ:=bZ.lt
  go_wp2
  exact Zf Za rfl rfl rfl (((bZ.set 0 _).set 1 _).set 2 _) ⟨_,_,_,_,_,by rw[HE.out,Zfn];rfl,fun m hm=>by rw[HE.out] at hm;rw[Zb7 hm];exact ⟨ra,rn,rc,rfl,oR.keep (HKs.out _ _ _) (fun g hg _ e=>by have:=(fR g hg).1;omega),rR,(fun g hg=>by have:=(fR g hg).1;omega),i1,i2⟩,((hG.setCell hle _).setCell hle _).setCell hle _⟩
 by_cases h3:op=3
 ·subst h3
  go_enter Tryz.func64,Tryz.ntmps64
  go_wp2_with fail
  rw[←Hw1.out]
  refine (Zie vA hb).mono ?_
  rintro e w2 ⟨rv,rfl,⟨ra,rn,rc,rfl,oR,rR,fR,i1,i2⟩,hG2⟩
  have HE:=hid (show res=okF (Zg A) (trB A) by rw[HR.out];rfl)
  have hs1:w.heap.size+1+1+1<w1.heap.size:=bZ.lt
  replace bZ:=bZ.grow hG2
  replace hG:=hG.trans hG2
  clear a0 a1 a2 b0 b1 b2 hltA hltB bA bB
  have hle:w.heap.size<=w.heap.size+1+1+1:=by omega
  have hKs: ∀ x y z,Keep (fun q=>q≠w.heap.size+1+1+1) w2 (((w2.setCell ⟨w.heap.size+1+1+1,0,none⟩ x).setCell ⟨w.heap.size+1+1+1,1,none⟩ y).setCell ⟨w.heap.size+1+1+1,2,none⟩ z):=fun x y z=>
   (((Keep.refl _ w2).setCell (fun _ e=>e rfl) _).setCell (fun _ e=>e rfl) _).setCell (fun _ e=>e rfl) _
  have HKs:=hid hKs
  clear hKs
  obtain ⟨⟨z0,z1,z2⟩,g0,g1,g2⟩:=bZ.three
  have hltZ:=bZ.lt
  go_wp2
  exact Zf Za rfl rfl rfl (((bZ.set 0 _).set 1 _).set 2 _) ⟨_,_,_,_,_,by rw[HE.out,Zfn];rfl,fun m hm=>by rw[HE.out] at hm;rw[Zb7 hm];exact ⟨ra,rn,rc,rfl,oR.keep (HKs.out _ _ _) (fun g hg _ e=>by have:=(fR g hg).1;omega),rR,(fun g hg=>by have:=(fR g hg).1;omega),i1,i2⟩,((hG.setCell hle _).setCell hle _).setCell hle _⟩
 by_cases h7:op=7
 ·subst h7
  go_enter Tryz.func64,Tryz.ntmps64
  go_wp2_with fail
  rw[←Hw1.out]
  refine (Zkx vA hb).mono ?_
  rintro e w2 ⟨rv,rfl,⟨ra,rn,rc,rfl,oR,rR,fR,i1,i2⟩,hG2⟩
  have HE:=hid (show res=okF (Zcx A) (ZbX A) by rw[HR.out];rfl)
  have hs1:w.heap.size+1+1+1<w1.heap.size:=bZ.lt
  replace bZ:=bZ.grow hG2
  replace hG:=hG.trans hG2
  clear a0 a1 a2 b0 b1 b2 hltA hltB bA bB
  have hle:w.heap.size<=w.heap.size+1+1+1:=by omega
  have hKs: ∀ x y z,Keep (fun q=>q≠w.heap.size+1+1+1) w2 (((w2.setCell ⟨w.heap.size+1+1+1,0,none⟩ x).setCell ⟨w.heap.size+1+1+1,1,none⟩ y).setCell ⟨w.heap.size+1+1+1,2,none⟩ z):=fun x y z=>
   (((Keep.refl _ w2).setCell (fun _ e=>e rfl) _).setCell (fun _ e=>e rfl) _).setCell (fun _ e=>e rfl) _
  have HKs:=hid hKs
  clear hKs
  obtain ⟨⟨z0,z1,z2⟩,g0,g1,g2⟩:=bZ.three
  have hltZ:=bZ.lt
  go_wp2
  exact Zf Za rfl rfl rfl (((bZ.set 0 _).set 1 _).set 2 _) ⟨_,_,_,_,_,by rw[HE.out,Zfn];rfl,fun m hm=>by rw[HE.out] at hm;rw[Zb7 hm];exact ⟨ra,rn,rc,rfl,oR.keep (HKs.out _ _ _) (fun g hg _ e=>by have:=(fR g hg).1;omega),rR,(fun g hg=>by have:=(fR g hg).1;omega),i1,i2⟩,((hG.setCell hle _).setCell hle _).setCell hle _⟩
 by_cases h8:op=8
 ·subst h8
  go_enter Tryz.func64,Tryz.ntmps64
  go_wp2_with fail
  rw[←Hw1.out]
  refine (Zi8 vA hb).mono ?_
  rintro e w2 ⟨rv,rfl,⟨ra,rn,rc,rfl,oR,rR,fR,i1,i2⟩,hG2⟩
  have HE:=hid (show res=okF (ZaK A) (ZaE A) by rw[HR.out];rfl)
  have hs1:w.heap.size+1+1+1<w1.heap.size:=bZ.lt
  replace bZ:=bZ.grow hG2
  replace hG:=hG.trans hG2
  clear a0 a1 a2 b0 b1 b2 hltA hltB bA bB
  have hle:w.heap.size<=w.heap.size+1+1+1:=by omega
  have hKs: ∀ x y z,Keep (fun q=>q≠w.heap.size+1+1+1) w2 (((w2.setCell ⟨w.heap.size+1+1+1,0,none⟩ x).setCell ⟨w.heap.size+1+1+1,1,none⟩ y).setCell ⟨w.heap.size+1+1+1,2,none⟩ z):=fun x y z=>
   (((Keep.refl _ w2).setCell (fun _ e=>e rfl) _).setCell (fun _ e=>e rfl) _).setCell (fun _ e=>e rfl) _
  have HKs:=hid hKs
  clear hKs
  obtain ⟨⟨z0,z1,z2⟩,g0,g1,g2⟩:=bZ.three
  have hltZ:=bZ.lt
  go_wp2
  exact Zf Za rfl rfl rfl (((bZ.set 0 _).set 1 _).set 2 _) ⟨_,_,_,_,_,by rw[HE.out,Zfn];rfl,fun m hm=>by rw[HE.out] at hm;rw[Zb7 hm];exact ⟨ra,rn,rc,rfl,oR.keep (HKs.out _ _ _) (fun g hg _ e=>by have:=(fR g hg).1;omega),rR,(fun g hg=>by have:=(fR g hg).1;omega),i1,i2⟩,((hG.setCell hle _).setCell hle _).setCell hle _⟩
 by_cases h4:op=4
 ·subst h4
  go_enter Tryz.func64,Tryz.ntmps64
  go_wp2_with fail
  rw[←Hw1.out]
  refine (Zng vA hb).mono ?_
  rintro e w2 ⟨rfl,hG2⟩
  have HE:=hid (show res=okF (Zc7 A) {rows:=1,cols:=1,cells:=[dtV A]} by rw[HR.out];rfl)
  replace bZ:=bZ.grow hG2
  replace hG:=hG.trans hG2
  have hs1:w.heap.size+1+1+1<w2.heap.size:=bZ.lt
  have hdr:=ZoD A
  clear a0 a1 a2 b0 b1 b2 hltA hltB bA bB
  cases hok:Zc7 A with
  |false=>
   have HE2:=hid (show res=none by rw[HE.out,hok];rfl)
   clear hok HE
   have hle:w.heap.size<=w.heap.size+1+1+1:=by omega
   have hKs: ∀ x y z,Keep (fun q=>q≠w.heap.size+1+1+1) w2 (((w2.setCell ⟨w.heap.size+1+1+1,0,none⟩ x).setCell ⟨w.heap.size+1+1+1,1,none⟩ y).setCell ⟨w.heap.size+1+1+1,2,none⟩ z):=fun x y z=>
    (((Keep.refl _ w2).setCell (fun _ e=>e rfl) _).setCell (fun _ e=>e rfl) _).setCell (fun _ e=>e rfl) _
   have HKs:=hid hKs
   clear hKs
   obtain ⟨⟨z0,z1,z2⟩,g0,g1,g2⟩:=bZ.three
   have hltZ:=bZ.lt
   go_wp2
   exact Zf Za rfl rfl rfl (((bZ.set 0 _).set 1 _).set 2 _) ⟨_,_,_,_,_,by rw[HE2.out];rfl,(fun m hm=>by rw[HE2.out] at hm;cases hm),((hG.setCell hle _).setCell hle _).setCell hle _⟩
  |true=>
   have HE2:=hid (show res=some {rows:=1,cols:=1,cells:=[dtV A]} by rw[HE.out,hok];rfl)
   clear hok HE
   generalize dtV A=dv at *
   have hle:w.heap.size<=w.heap.size+1+1+1:=by omega
   have hKs: ∀ x y z,Keep (fun q=>q≠w.heap.size+1+1+1) w2 (((w2.setCell ⟨w.heap.size+1+1+1,0,none⟩ x).setCell ⟨w.heap.size+1+1+1,1,none⟩ y).setCell ⟨w.heap.size+1+1+1,2,none⟩ z):=fun x y z=>
    (((Keep.refl _ w2).setCell (fun _ e=>e rfl) _).setCell (fun _ e=>e rfl) _).setCell (fun _ e=>e rfl) _
   have HKs:=hid hKs
   clear hKs
   obtain ⟨⟨z0,z1,z2⟩,g0,g1,g2⟩:=bZ.three
   have hltZ:=bZ.lt
   go_wp2
   have oD: ∀ x y z,Own ((((w2.setCell ⟨w.heap.size+1+1+1,0,none⟩ x).setCell ⟨w.heap.size+1+1+1,1,none⟩ y).setCell ⟨w.heap.size+1+1+1,2,none⟩ z).alloc (.cells #[Yv Yi dv] 3)) 3 1 (some ⟨w2.heap.size,0,none⟩) 1 1 (ints [dv]):=fun x y z=>Own.freshAt (by simp) (by unfold maxLen;omega) rfl
   exact Zf Za rfl rfl rfl ((((bZ.set 0 _).set 1 _).set 2 _).alloc _) ⟨_,_,_,_,_,by rw[HE2.out];rfl,(fun m hm=>by rw[HE2.out] at hm;rw[←Option.some.inj hm];exact ⟨_,1,1,rfl,oD _ _ _,(fun x hx=>by rw[List.mem_singleton.1 hx];exact hdr),(fun q hq=>by have:=Option.some.inj hq;simp only at this;omega),by unfold I64;simp,by unfold I64;simp⟩),(((hG.setCell hle _).setCell hle _).setCell hle _).alloc _ _⟩
 by_cases h5:op=5
 ·subst h5
  go_enter Tryz.func64,Tryz.ntmps64
  go_wp2_with fail
  rw[←Hw1.out]
  refine (Zo0 vA hb).mono ?_
  rintro e w2 ⟨x1,x2,x3,x4,x5,y1,y2,y3,y4,y5,rfl,hr,hG2⟩
  have HE:=hid (show res=Zcs A from HR.out)
  have hs1:w.heap.size+1+1+1<w1.heap.size:=bZ.lt
  replace bZ:=bZ.grow hG2
  replace hG:=hG.trans hG2
  clear a0 a1 a2 b0 b1 b2 hltA hltB bA bB
  obtain ⟨w3,hw3⟩: ∃ z,z=(w2.alloc (.cells #[Yv Yi x1,Yv Yi x2, .slice x3 x4 x5] 28)).alloc (.cells #[Yv Yi y1,Yv Yi y2, .slice y3 y4 y5] 28):=⟨_,rfl⟩
  have hG3:Grow w2 w3:=by rw[hw3];exact ((Grow.refl _).alloc _ _).alloc _ _
  have bX:Blk w3 w2.heap.size #[Yv Yi x1,Yv Yi x2, .slice x3 x4 x5] 28:=by rw[hw3];exact (Blk.new _ _ _).alloc _
  have Hr:=hid (fun r h=>(hr r h).grow hG3)
  replace bZ:=bZ.grow hG3
  replace hG:=hG.trans hG3
  rw[hw3] at bX bZ hG Hr
  clear hr hw3 hG3 hG2
  obtain ⟨⟨e0,e1,e2⟩, -⟩:=bX.three
  have hltX:=bX.lt
  have hle:w.heap.size<=w.heap.size+1+1+1:=by omega
  have hKs: ∀ x y z,Keep (fun q=>q≠w.heap.size+1+1+1) ((w2.alloc (.cells #[Yv Yi x1,Yv Yi x2, .slice x3 x4 x5] 28)).alloc (.cells #[Yv Yi y1,Yv Yi y2, .slice y3 y4 y5] 28)) (((((w2.alloc (.cells #[Yv Yi x1,Yv Yi x2, .slice x3 x4 x5] 28)).alloc (.cells #[Yv Yi y1,Yv Yi y2, .slice y3 y4 y5] 28)).setCell ⟨w.heap.size+1+1+1,0,none⟩ x).setCell ⟨w.heap.size+1+1+1,1,none⟩ y).setCell ⟨w.heap.size+1+1+1,2,none⟩ z):=fun x y z=>
   (((Keep.refl _ ((w2.alloc (.cells #[Yv Yi x1,Yv Yi x2, .slice x3 x4 x5] 28)).alloc (.cells #[Yv Yi y1,Yv Yi y2, .slice y3 y4 y5] 28))).setCell (fun _ e=>e rfl) _).setCell (fun _ e=>e rfl) _).setCell (fun _ e=>e rfl) _
  have HKs:=hid hKs
  clear hKs
  obtain ⟨⟨z0,z1,z2⟩,g0,g1,g2⟩:=bZ.three
  have hltZ:=bZ.lt
  go_wp2
  exact Zf Za rfl rfl rfl (((bZ.set 0 _).set 1 _).set 2 _) ⟨_,_,_,_,_,by rw[HE.out];rfl,fun m hm=>by rw[HE.out] at hm;exact ((Hr.out m hm).keep (HKs.out _ _ _) (fun g _ hg=>by omega)).weak fun q _ hq=>by omega,((hG.setCell hle _).setCell hle _).setCell hle _⟩
 by_cases h6:op=6
 ·subst h6
  go_enter Tryz.func64,Tryz.ntmps64
  go_wp2_with fail
  rw[←Hw1.out]
  refine (Zn9 vA hb).mono ?_
  rintro e w2 ⟨x1,x2,x3,x4,x5,y1,y2,y3,y4,y5,k1,k2,k3,k4,k5,rfl,hr,hG2⟩
  have HE:=hid (show res=Zcr A by rw[HR.out];rfl)
  have hs1:w.heap.size+1+1+1<w1.heap.size:=bZ.lt
  replace bZ:=bZ.grow hG2
  replace hG:=hG.trans hG2
  clear a0 a1 a2 b0 b1 b2 hltA hltB bA bB
  obtain ⟨w3,hw3⟩: ∃ z,z=((w2.alloc (.cells #[Yv Yi x1,Yv Yi x2, .slice x3 x4 x5] 28)).alloc (.cells #[Yv Yi y1,Yv Yi y2, .slice y3 y4 y5] 28)).alloc (.cells #[Yv Yi k1,Yv Yi k2, .slice k3 k4 k5] 28):=⟨_,rfl⟩
  have hG3:Grow w2 w3:=by rw[hw3];exact (((Grow.refl _).alloc _ _).alloc _ _).alloc _ _
  have bX:Blk w3 w2.heap.size #[Yv Yi x1,Yv Yi x2, .slice x3 x4 x5] 28:=by rw[hw3];exact ((Blk.new _ _ _).alloc _).alloc _
  have Hr:=hid (fun r h=>(hr r h).grow hG3)
  replace bZ:=bZ.grow hG3
  replace hG:=hG.trans hG3
  rw[hw3] at bX bZ hG Hr
  clear hr hw3 hG3 hG2
  obtain ⟨⟨e0,e1,e2⟩, -⟩:=bX.three
  have hltX:=bX.lt
  have hle:w.heap.size<=w.heap.size+1+1+1:=by omega
  have hKs: ∀ x y z,Keep (fun q=>q≠w.heap.size+1+1+1) (((w2.alloc (.cells #[Yv Yi x1,Yv Yi x2, .slice x3 x4 x5] 28)).alloc (.cells #[Yv Yi y1,Yv Yi y2, .slice y3 y4 y5] 28)).alloc (.cells #[Yv Yi k1,Yv Yi k2, .slice k3 k4 k5] 28)) ((((((w2.alloc (.cells #[Yv Yi x1,Yv Yi x2, .slice x3 x4 x5] 28)).alloc (.cells #[Yv Yi y1,Yv Yi y2, .slice y3 y4 y5] 28)).alloc (.cells #[Yv Yi k1,Yv Yi k2, .slice k3 k4 k5] 28)).setCell ⟨w.heap.size+1+1+1,0,none⟩ x).setCell ⟨w.heap.size+1+1+1,1,none⟩ y).setCell ⟨w.heap.size+1+1+1,2,none⟩ z):=fun x y z=>
   (((Keep.refl _ (((w2.alloc (.cells #[Yv Yi x1,Yv Yi x2, .slice x3 x4 x5] 28)).alloc (.cells #[Yv Yi y1,Yv Yi y2, .slice y3 y4 y5] 28)).alloc (.cells #[Yv Yi k1,Yv Yi k2, .slice k3 k4 k5] 28))).setCell (fun _ e=>e rfl) _).setCell (fun _ e=>e rfl) _).setCell (fun _ e=>e rfl) _
  have HKs:=hid hKs
  clear hKs
  obtain ⟨⟨z0,z1,z2⟩,g0,g1,g2⟩:=bZ.three
  have hltZ:=bZ.lt
  go_wp2
  exact Zf Za rfl rfl rfl (((bZ.set 0 _).set 1 _).set 2 _) ⟨_,_,_,_,_,by rw[HE.out];rfl,fun m hm=>by rw[HE.out] at hm;exact ((Hr.out m hm).keep (HKs.out _ _ _) (fun g _ hg=>by omega)).weak fun q _ hq=>by omega,((hG.setCell hle _).setCell hle _).setCell hle _⟩
 ·have q1:(op==1)=false:=by simp[h1]
  have q2:(op==2)=false:=by simp[h2]
  have q3:(op==3)=false:=by simp[h3]
  have q4:(op==4)=false:=by simp[h4]
  have q5:(op==5)=false:=by simp[h5]
  have q6:(op==6)=false:=by simp[h6]
  have q7:(op==7)=false:=by simp[h7]
  have q8:(op==8)=false:=by simp[h8]
  have HO:=hid (show opF op A B=okF (Zbh A) (Za1 A) by unfold opF;rw[if_neg h1,if_neg h2,if_neg h3,if_neg h4,if_neg h5,if_neg h6,if_neg h7,if_neg h8])
  rw[HO.out] at HR
  clear h1 h2 h3 h4 h5 h6 h7 h8 HO
  go_enter Tryz.func64,Tryz.ntmps64
  go_wp2_with fail
  rw[←Hw1.out]
  refine (Zpk vA hb).mono ?_
  rintro e w2 ⟨x1,x2,x3,x4,x5,y1,y2,y3,y4,y5,rfl,hr,hG2⟩
  have HE:=hid (show res=okF (Zbh A) (Za1 A) from HR.out)
  have hs1:w.heap.size+1+1+1<w1.heap.size:=bZ.lt
  replace bZ:=bZ.grow hG2
  replace hG:=hG.trans hG2
  clear a0 a1 a2 b0 b1 b2 hltA hltB bA bB
  obtain ⟨w3,hw3⟩: ∃ z,z=(w2.alloc (.cells #[Yv Yi x1,Yv Yi x2, .slice x3 x4 x5] 28)).alloc (.cells #[Yv Yi y1,Yv Yi y2, .slice y3 y4 y5] 28):=⟨_,rfl⟩
  have hG3:Grow w2 w3:=by rw[hw3];exact ((Grow.refl _).alloc _ _).alloc _ _
  have bX:Blk w3 w2.heap.size #[Yv Yi x1,Yv Yi x2, .slice x3 x4 x5] 28:=by rw[hw3];exact (Blk.new _ _ _).alloc _
  have Hr:=hid (fun r h=>(hr r h).grow hG3)
  replace bZ:=bZ.grow hG3
  replace hG:=hG.trans hG3
  rw[hw3] at bX bZ hG Hr
  clear hr hw3 hG3 hG2
  obtain ⟨⟨e0,e1,e2⟩, -⟩:=bX.three
  have hltX:=bX.lt
  have hle:w.heap.size<=w.heap.size+1+1+1:=by omega
  have hKs: ∀ x y z,Keep (fun q=>q≠w.heap.size+1+1+1) ((w2.alloc (.cells #[Yv Yi x1,Yv Yi x2, .slice x3 x4 x5] 28)).alloc (.cells #[Yv Yi y1,Yv Yi y2, .slice y3 y4 y5] 28)) (((((w2.alloc (.cells #[Yv Yi x1,Yv Yi x2, .slice x3 x4 x5] 28)).alloc (.cells #[Yv Yi y1,Yv Yi y2, .slice y3 y4 y5] 28)).setCell ⟨w.heap.size+1+1+1,0,none⟩ x).setCell ⟨w.heap.size+1+1+1,1,none⟩ y).setCell ⟨w.heap.size+1+1+1,2,none⟩ z):=fun x y z=>
   (((Keep.refl _ ((w2.alloc (.cells #[Yv Yi x1,Yv Yi x2, .slice x3 x4 x5] 28)).alloc (.cells #[Yv Yi y1,Yv Yi y2, .slice y3 y4 y5] 28))).setCell (fun _ e=>e rfl) _).setCell (fun _ e=>e rfl) _).setCell (fun _ e=>e rfl) _
  have HKs:=hid hKs
  clear hKs
  obtain ⟨⟨z0,z1,z2⟩,g0,g1,g2⟩:=bZ.three
  have hltZ:=bZ.lt
  go_wp2
  exact Zf Za rfl rfl rfl (((bZ.set 0 _).set 1 _).set 2 _) ⟨_,_,_,_,_,by rw[HE.out];rfl,fun m hm=>by rw[HE.out] at hm;exact ((Hr.out m hm).keep (HKs.out _ _ _) (fun g _ hg=>by omega)).weak fun q _ hq=>by omega,((hG.setCell hle _).setCell hle _).setCell hle _⟩

end Go.Proofs.YtgeoehnbpkediaaGreat
