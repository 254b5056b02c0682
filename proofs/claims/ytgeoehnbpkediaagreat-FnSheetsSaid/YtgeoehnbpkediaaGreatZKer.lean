/- KernelOf: the program's and the reference's. -/
import Derived.Test.YtgeoehnbpkediaaGreatZBasI
set_option maxHeartbeats 8000000
set_option maxRecDepth 100000
namespace Go.Proofs.YtgeoehnbpkediaaGreat
open Go.RowKit
open Lib (hid)
open Go.Value renaming int->Yv
open Go.IntKind renaming i64->Yi
variable {C R c n:Nat} {S:Nat->Prop} {a:Option Addr} {cells:List Int} {m:Mat} {mc mr:Int} {s:HS} {v:Value} {w:World}
def Zhy (s:HS) (C R:Nat):Mat:={rows:=((R-Zac s.1 C R:Nat):Int),cols:=(R:Int),cells:=s.2.drop (Zac s.1 C R*R)}
def ZcW (m:Mat):Bool:=match ZbC m with
 |some s=>Zda (Zhy s m.cols.toNat m.rows.toNat)
 |none=>false
def Zcb (m:Mat):Mat:=match ZbC m with
 |some s=>Zdg (Zhy s m.cols.toNat m.rows.toNat)
 |none=>{rows:=0,cols:=0,cells:=[]}
theorem Zfn (h:ZbC m=none):ZcW m=false/\Zcb m={rows:=0,cols:=0,cells:=[]}:=by
 unfold ZcW Zcb;rw[h];exact ⟨rfl,rfl⟩
theorem Zji (hB:Zg {rows:=(R:Int),cols:=(C:Int),cells:=cells}=true) (h:ZbE cells R C=some s):
  ZcW {rows:=(R:Int),cols:=(C:Int),cells:=cells}=Zda (Zhy s C R)/\Zcb {rows:=(R:Int),cols:=(C:Int),cells:=cells}=Zdg (Zhy s C R):=by
 have h1:=ZdG hB;rw[h] at h1;unfold ZcW Zcb;rw[h1];exact ⟨rfl,rfl⟩
theorem ZmV {m:List Int} {t:Nat} (h:Ech C R m C t) (ht:t<=R):((List.range R).filter fun i=> !nzB m C i)=List.range' t (R-t):=by
 have e:List.range R=List.range t++List.range' t (R-t):=by rw[List.range_eq_range',List.range_eq_range'];have:=List.range'_append (s:=0) (m:=t) (n:=R-t) (step:=1);simp at this;rw[this];congr 1;omega
 rw[e,List.filter_append];have h1:((List.range t).filter fun i=> !nzB m C i)=[]:=List.filter_eq_nil_iff.2 fun i hi hz=>by rw[ZdF.2 (h.full i (List.mem_range.1 hi))] at hz;cases hz
 have h2:((List.range' t (R-t)).filter fun i=> !nzB m C i)=List.range' t (R-t):=List.filter_eq_self.2 fun i hi=>by
  rw[List.mem_range'_1] at hi;cases hz:nzB m C i with
  |false=>rfl
  |true=>obtain ⟨k,hk,hne⟩:=ZdF.1 hz;exact (hne (h.zero i (by omega) (by omega) k hk)).elim
 rw[h1,h2,List.nil_append]
theorem ZiU {m:List Int} {C:Nat}: ∀ {n t:Nat},m.length=(t+n)*C->((List.range' t n).map (Zbe m C)).flatten=m.drop (t*C)
 |0,t,h=>by rw[Nat.add_zero] at h;simp[←h]
 |n+1,t,h=>by rw[List.range'_succ,List.map_cons,List.flatten_cons,ZiU (by rw[h];congr 1;omega)];unfold Zbe;rw[Nat.add_mul,Nat.one_mul, ←List.drop_drop,List.take_append_drop]
theorem ZnM (hl:cells.length=R*C) (hm:NumL cells) (h:ZbE cells R C=some s):
  ((List.range R).filter fun i=> !nzB s.1 C i)=List.range' (Zac s.1 C R) (R-Zac s.1 C R)/\((List.range' (Zac s.1 C R) (R-Zac s.1 C R)).map (Zbe s.2 R)).flatten=s.2.drop (Zac s.1 C R*R):=by
 obtain ⟨hs,t,ht,hE⟩:=Zb2 hl hm h;have e:=ZhU hE R (Nat.le_refl _) ht;rw[e];exact ⟨ZmV hE ht,ZiU (by rw[hs.lu];congr 1;omega)⟩
theorem Zmd (hVM:VM w S (.agg #[Yv Yi mr,Yv Yi mc, .slice a n c]) m) (hb:bdM m<=1048576) (hB:Zg m=false):
  Calls Tryz.prog 87 #[.agg #[Yv Yi mr,Yv Yi mc, .slice a n c]] w fun e w'=> ∃ r,e= .returned (.tuple #[r, .bool (ZcW m)])/\OM w' (New w w') r (Zcb m)/\Grow w w':=by
 have Hz:=hid (Zfn (m:=m) (by unfold ZbC;rw[hB];rfl));obtain ⟨w3,hw3,hG, -,bR, -⟩:=al2 w #[Yv Yi mr,Yv Yi mc, .slice a n c] 28 #[Yv Yi 0,Yv Yi 0, .slice none 0 0] 28;have Hw3:=hid hw3;clear hw3;go_enter Tryz.func87,Tryz.ntmps87;go_wp2_with fail;rw[←Hw3.out];refine (ZfI (hVM.grow hG) hb hB).mono ?_;rintro e w4 ⟨rfl,hG4⟩;have hZ1:=((Grow.refl w4).alloc #[Yv Yi 0,Yv Yi 0, .slice none 0 0] 28).alloc #[Yv Yi 0,Yv Yi 0, .slice none 0 0] 28;have bR5:=(bR.grow hG4).grow hZ1;have hltR:w.heap.size+1<w4.heap.size:=(bR.grow hG4).lt;have hG5:=(hG.trans hG4).trans hZ1;obtain ⟨⟨a0,a1,a2⟩,f0,f1,f2⟩:=bR5.three;have h1:w.heap.size<=w.heap.size+1:=by omega
 go_wp2;exact Zf Zb rfl rfl rfl (((bR5.set 0 _).set 1 _).set 2 _) ⟨_,by rw[Hz.out.1];rfl,by rw[Hz.out.2];exact OM.zero,((hG5.setCell h1 _).setCell h1 _).setCell h1 _⟩
theorem Zlh (h:RdI w S a n c cells) (hl:cells.length=R*C) (hnum:NumL cells) (hR:R<=24) (hC:C<=24):
  Calls Tryz.prog 87 #[.agg #[Yv Yi R,Yv Yi C, .slice a n c]] w fun e w'=> ∃ r,e= .returned (.tuple #[r, .bool (ZcW {rows:=(R:Int),cols:=(C:Int),cells:=cells})])/\OM w' (New w w') r (Zcb {rows:=(R:Int),cols:=(C:Int),cells:=cells})/\Grow w w':=by
 have hB:=ZaG hR hC hl hnum;obtain ⟨mr,hmr⟩: ∃ mr:Int,mr=R:=⟨_,rfl⟩;obtain ⟨mc,hmc⟩: ∃ mc:Int,mc=C:=⟨_,rfl⟩;have hb1:=fun s=>Zji (s:=s) hB;have hb2:=fun hn:ZbE cells R C=none=>Zfn (m:={rows:=(R:Int),cols:=(C:Int),cells:=cells}) (by rw[ZdG hB];exact hn);have Hb1:=hid hb1;have Hb2:=hid hb2;clear hb1 hb2 hB;generalize hM:({rows:=(R:Int),cols:=(C:Int),cells:=cells}:Mat)=M at *;clear hM;rw[←hmr, ←hmc];obtain ⟨w3,hw3,hG, -,bR, -⟩:=al2 w #[Yv Yi mr,Yv Yi mc, .slice a n c] 28 #[Yv Yi 0,Yv Yi 0, .slice none 0 0] 28;have Hw3:=hid hw3;clear hw3;subst hmr;subst hmc;go_enter Tryz.func87,Tryz.ntmps87;go_wp2_with fail;rw[←Hw3.out];refine (ZgM (h.grow hG) hl hnum hR hC).mono ?_;rintro e w4 ⟨hG4,(⟨hn,rfl⟩|⟨s,aa,ca,au,cu,hs,rfl,rA,rU⟩)⟩
 ·have Hz:=hid (Hb2.out hn);clear hn;have hZ1:=((Grow.refl w4).alloc #[Yv Yi 0,Yv Yi 0, .slice none 0 0] 28).alloc #[Yv Yi 0,Yv Yi 0, .slice none 0 0] 28;have bR5:=(bR.grow hG4).grow hZ1;have hltR:w.heap.size+1<w4.heap.size:=(bR.grow hG4).lt;have hG5:=(hG.trans hG4).trans hZ1;obtain ⟨⟨a0,a1,a2⟩,f0,f1,f2⟩:=bR5.three;have h1:w.heap.size<=w.heap.size+1:=by omega
  go_wp2;exact Zf Zb rfl rfl rfl (((bR5.set 0 _).set 1 _).set 2 _) ⟨_,by rw[Hz.out.1];rfl,by rw[Hz.out.2];exact OM.zero,((hG5.setCell h1 _).setCell h1 _).setCell h1 _⟩
 ·have Hy:=hid (Hb1.out s hs);have hsp:=(Zb2 hl hnum hs).1;have htR:Zac s.1 C R<=R:=Zd9 _ _ _;obtain ⟨hf1,hf2⟩:=ZnM hl hnum hs;have hltR:w.heap.size+1<w4.heap.size:=(bR.grow hG4).lt;obtain ⟨w5,hw5,hG5,bH,bV, -⟩:=al2 w4 #[Yv Yi (R:Int),Yv Yi (C:Int), .slice aa (R*C) ca] 28 #[Yv Yi (R:Int),Yv Yi (R:Int), .slice au (R*R) cu] 28;obtain ⟨⟨a0,a1,a2⟩, -⟩:=bH.three;rw[hw5] at a0 a1 a2;have Hw5:=hid hw5;clear hw5;have rA5:=rA.grow hG5;have rU5:=rU.grow hG5;have bR5:=(bR.grow hG4).grow hG5;clear rA rU hs;go_wp2_with fail;rw[←Hw5.out];refine (ZhG aa _ ca C R s.1 _ rA5 hsp.la hR hC).mono ?_;rintro e w6 ⟨a1',a2',n1,n2,c1,c2,rfl,hP,hG6⟩;rw[hf1] at hP;have hkm:Zhy s C R={rows:=((R-Zac s.1 C R:Nat):Int),cols:=(R:Int),cells:=s.2.drop (Zac s.1 C R*R)}:=rfl;rw[hkm] at Hy;clear hkm;generalize Zac s.1 C R=t at *;have rI:=hP.ou.rdI (S:=fun _=>True) (fun _ _=>trivial) (ZjS (l:=List.range' t (R-t)) (fun x hx=>by rw[List.mem_range'_1] at hx;omega));have Hn2:=hid (show n2=R-t by have:=rI.len;unfold Zeh at this;simpa using this.symm);have bV6:=bV.grow hG6;obtain ⟨⟨a0,a1,a2⟩, -⟩:=bV6.three;have rU6:=rU5.grow hG6;have bR6:=bR5.grow hG6;have hGt:=((hG.trans hG4).trans hG5).trans hG6;clear hP hf1;have hlt6:w.heap.size+1<w6.heap.size:=bR6.lt;go_wp2_with fail;refine (Zib au a2' _ cu n2 c2 R R s.2 (List.range' t (R-t)) _ rU6 hsp.lu hR hR rI (fun x hx=>by rw[List.mem_range'_1] at hx;omega) (by simp;omega)).mono ?_;rintro e w7 ⟨a',c',rfl,hO7,hlo7,hG7⟩;rw[hf2] at hO7;rw[←Hn2.out] at Hy;have hn24:n2<=24:=by have:=Hn2.out;omega
  have hRR:R*R<=24*24:=Nat.mul_le_mul hR hR;have hnr:NumL (s.2.drop (t*R)):=fun x hx=>hsp.nu x (List.mem_of_mem_drop hx);have vK:VM w7 (fun _=>True) (.agg #[Yv Yi (n2:Int),Yv Yi (R:Int), .slice a' (n2*R) c']) {rows:=(n2:Int),cols:=(R:Int),cells:=s.2.drop (t*R)}:=
   ⟨a',_,c',rfl,hO7.rdI (fun _ _=>trivial) (ZA hnr),by show I64 (n2:Int);unfold I64;omega,by show I64 (R:Int);unfold I64;omega⟩
  go_wp2_with fail;refine (Zmn vK (by unfold bdM;simp only[List.length_drop];rw[hsp.lu];omega)).mono ?_;rintro e w8 ⟨r,rfl,hRes,hG8⟩;obtain ⟨ra,rn,rc,rfl,oR,rR,fR,i1,i2⟩:=hRes;generalize hbm:Zdg {rows:=(n2:Int),cols:=(R:Int),cells:=s.2.drop (t*R)}=BM at *;clear hbm;have bR8:=(bR6.grow hG7).grow hG8;have hs7:=hG7.size;have hs6:=hGt.size;obtain ⟨⟨b0,b1,b2⟩,f0,f1,f2⟩:=bR8.three;have hK9:Keep (fun q=>q≠w.heap.size+1) w8 (((w8.setCell ⟨w.heap.size+1,0,none⟩ (Yv Yi BM.rows)).setCell ⟨w.heap.size+1,1,none⟩ (Yv Yi BM.cols)).setCell ⟨w.heap.size+1,2,none⟩ (.slice ra rn rc)):=
   (((Keep.refl _ w8).setCell (fun _ e=>e rfl) _).setCell (fun _ e=>e rfl) _).setCell (fun _ e=>e rfl) _
  have hof:=oR.keep hK9 (fun g hg _ e=>by have:=(fR g hg).1;omega);have hBf:=((bR8.set 0 (Yv Yi BM.rows)).set 1 (Yv Yi BM.cols)).set 2 (.slice ra rn rc);have hGf:=((hGt.trans hG7).trans hG8).keep hK9 fun q hq=>by omega
  go_wp2;refine Zf Zb rfl rfl rfl hBf ⟨_,by rw[Hy.out.1];rfl,by rw[Hy.out.2];exact ⟨ra,rn,rc,rfl,hof,rR,fun g hg=>⟨by have:=(fR g hg).1;omega,hof.lt hg⟩,i1,i2⟩,hGf⟩
theorem Zlp (h:VM w S v m) (hb:bdM m<=1048576):
  Calls Tryz.prog 87 #[v] w fun e w'=> ∃ r,e= .returned (.tuple #[r, .bool (ZcW m)])/\OM w' (New w w') r (Zcb m)/\Grow w w':=by
 have hVM:=h;obtain ⟨a,n,c,rfl,h,hr,hc⟩:=h;cases hB:Zg m with
 |false=>exact Zmd hVM hb hB
 |true=>obtain ⟨R,C,hmr,hmc,hR,hC,hl,hnum⟩:=ZD hB;obtain ⟨mr,mc,cells⟩:=m;simp only at hmr hmc hl hnum;subst hmr;subst hmc;exact Zlh h hl hnum hR hC
def KerPost (z N:Nat) (L:List Int) (x y:Int) (BM:Mat) (bo:Bool):Nat->Value->World->Prop
 |6,u,w=> ∃ g,u= .slice (some ⟨g,0,none⟩) 0 0/\Own w 3 1 (some ⟨g,0,none⟩) 0 0 []
 |14,u,w=> ∃ g c,u= .slice (some ⟨g,0,none⟩) N c/\Own w 3 1 (some ⟨g,0,none⟩) N c (ints L)
 |15,u,w=> ∃ g c,u= .agg #[Yv Yi x,Yv Yi y, .slice (some ⟨g,0,none⟩) N c]/\Own w 3 1 (some ⟨g,0,none⟩) N c (ints L)
 |16,u,w=> ∃ r,u= .tuple #[r, .bool bo]/\OM w (fun g=>z<=g) r BM
 |17,u,w=> ∃ r,u= .tuple #[r, .bool bo]/\OM w (fun g=>z<=g) r BM
 |18,u,w=>OM w (fun g=>z<=g) u BM
 |19,u,_=>u= .bool bo
 |20,u,w=> ∃ g,u= .pointer (some ⟨g,0,none⟩)/\z<=g/\Blk w g #[Yv Yi 0,Yv Yi 0, .slice none 0 0] 28
 |_,_,_=>True
theorem KerPost.stays {z N:Nat} {L:List Int} {x y:Int} {BM:Mat} {bo:Bool}: ∀ i u w w',Grow w w'->KerPost z N L x y BM bo i u w->KerPost z N L x y BM bo i u w':=fun i u w w' hG h=>by
 unfold KerPost at *;split at h
 ·obtain ⟨g,h1,h2⟩:=h;exact ⟨g,h1,h2.grow hG⟩
 ·obtain ⟨g,c,h1,h2⟩:=h;exact ⟨g,c,h1,h2.grow hG⟩
 ·obtain ⟨g,c,h1,h2⟩:=h;exact ⟨g,c,h1,h2.grow hG⟩
 ·obtain ⟨r,h1,h2⟩:=h;exact ⟨r,h1,h2.grow hG⟩
 ·obtain ⟨r,h1,h2⟩:=h;exact ⟨r,h1,h2.grow hG⟩
 ·exact h.grow hG
 ·exact h
 ·obtain ⟨g,h1,h2,h3⟩:=h;exact ⟨g,h1,h2,h3.grow hG⟩
 ·trivial
theorem ZmL {P:Program} {o:Oper} {a:Act} {K:Act->World->Prop} {Q:Exit->Act->World->Prop} {t:TypeId} {x y z:Operand} {u s:Value} (ho:o.op= .build t #[(0,x),(1,y),(2,z)]) (hx:a.eval x=u) (hy:a.eval y=v) (hz:a.eval z=s)
  (hb:P.built t [(0,u),(1,v),(2,s)]=some #[u,v,s]) (h:K (a.put o.dst (.agg #[u,v,s])) w):o.wp P a w K Q:=
 wp_build t _ ho (by simp[hx,hy,hz,hb]) (by simpa [hx,hy,hz,hb] using h)
theorem Znj (u v:Int) (a:Option Addr) (n c:Nat):Tryz.prog.built 28 [(0,Yv Yi u),(1,Yv Yi v),(2, .slice a n c)]=some #[Yv Yi u,Yv Yi v, .slice a n c]:=by rfl
theorem Zms (hVM:VM w S (.agg #[Yv Yi mr,Yv Yi mc, .slice a n c]) m) (hb:bdM m<=1048576) (hB:Zg m=false):
  Calls Tryz.prog 96 #[.agg #[Yv Yi mr,Yv Yi mc, .slice a n c]] w fun e w'=> ∃ r,e= .returned (.tuple #[r, .bool (ZcW m)])/\OM w' (New w w') r (Zcb m)/\Grow w w':=by
 have Hz:=hid (Zfn (m:=m) (by unfold ZbC;rw[hB];rfl));obtain ⟨w3,hw3,hG,bM,bR, -⟩:=al2 w #[Yv Yi mr,Yv Yi mc, .slice a n c] 28 #[Yv Yi 0,Yv Yi 0, .slice none 0 0] 28;have Hw3:=hid hw3;clear hw3;go_enter Tryz.func96,Tryz.ntmps96;go_wp2_with fail;rw[←Hw3.out];refine (ZfB (hVM.grow hG) hb hB).mono ?_;rintro e w4 ⟨rfl,hG4⟩;have hZ1:=((Grow.refl w4).alloc #[Yv Yi 0,Yv Yi 0, .slice none 0 0] 28).alloc #[Yv Yi 0,Yv Yi 0, .slice none 0 0] 28;have bR5:=(bR.grow hG4).grow hZ1;have hltR:w.heap.size+1<w4.heap.size:=(bR.grow hG4).lt;have hG5:=(hG.trans hG4).trans hZ1;obtain ⟨⟨a0,a1,a2⟩,f0,f1,f2⟩:=bR5.three;have h1:w.heap.size<=w.heap.size+1:=by omega
 go_wp2;exact Zf Zb rfl rfl rfl (((bR5.set 0 _).set 1 _).set 2 _) ⟨_,by rw[Hz.out.1];rfl,by rw[Hz.out.2];exact OM.zero,((hG5.setCell h1 _).setCell h1 _).setCell h1 _⟩
theorem Zlk (h:RdI w S a n c cells) (hl:cells.length=R*C) (hnum:NumL cells) (hR:R<=24) (hC:C<=24):
  Calls Tryz.prog 96 #[.agg #[Yv Yi R,Yv Yi C, .slice a n c]] w fun e w'=> ∃ r,e= .returned (.tuple #[r, .bool (ZcW {rows:=(R:Int),cols:=(C:Int),cells:=cells})])/\OM w' (New w w') r (Zcb {rows:=(R:Int),cols:=(C:Int),cells:=cells})/\Grow w w':=by
 have hB:=ZaG hR hC hl hnum;obtain ⟨mr,hmr⟩: ∃ mr:Int,mr=R:=⟨_,rfl⟩;obtain ⟨mc,hmc⟩: ∃ mc:Int,mc=C:=⟨_,rfl⟩;have hb1:=fun s=>Zji (s:=s) hB;have hb2:=fun hn:ZbE cells R C=none=>Zfn (m:={rows:=(R:Int),cols:=(C:Int),cells:=cells}) (by rw[ZdG hB];exact hn);have Hb1:=hid hb1;have Hb2:=hid hb2;clear hb1 hb2 hB;generalize hM:({rows:=(R:Int),cols:=(C:Int),cells:=cells}:Mat)=M at *;clear hM;rw[←hmr, ←hmc];obtain ⟨w3,hw3,hG,bM,bR, -⟩:=al2 w #[Yv Yi mr,Yv Yi mc, .slice a n c] 28 #[Yv Yi 0,Yv Yi 0, .slice none 0 0] 28;have Hw3:=hid hw3;clear hw3;subst hmr;subst hmc;go_enter Tryz.func96,Tryz.ntmps96;go_wp2_with fail;rw[←Hw3.out];refine (Zfc (h.grow hG) hl hnum hR hC).mono ?_;rintro e w4 ⟨hG4,(⟨hn,rfl⟩|⟨s,aa,ca,au,cu,hs,rfl,rA,rU⟩)⟩
 ·have Hz:=hid (Hb2.out hn);clear hn;have hZ1:=((Grow.refl w4).alloc #[Yv Yi 0,Yv Yi 0, .slice none 0 0] 28).alloc #[Yv Yi 0,Yv Yi 0, .slice none 0 0] 28;have bR5:=(bR.grow hG4).grow hZ1;have hltR:w.heap.size+1<w4.heap.size:=(bR.grow hG4).lt;have hG5:=(hG.trans hG4).trans hZ1;obtain ⟨⟨a0,a1,a2⟩,f0,f1,f2⟩:=bR5.three;have h1:w.heap.size<=w.heap.size+1:=by omega
  go_wp2;exact Zf Zb rfl rfl rfl (((bR5.set 0 _).set 1 _).set 2 _) ⟨_,by rw[Hz.out.1];rfl,by rw[Hz.out.2];exact OM.zero,((hG5.setCell h1 _).setCell h1 _).setCell h1 _⟩
 ·have Hy:=hid (Hb1.out s hs);have hsp:=(Zb2 hl hnum hs).1;have htR:Zac s.1 C R<=R:=Zd9 _ _ _;have hltR:w.heap.size+1<w4.heap.size:=(bR.grow hG4).lt;obtain ⟨w5,hw5,hG5,bH,bV, -⟩:=al2 w4 #[Yv Yi (R:Int),Yv Yi (C:Int), .slice aa (R*C) ca] 28 #[Yv Yi (R:Int),Yv Yi (R:Int), .slice au (R*R) cu] 28;obtain ⟨⟨a0,a1,a2⟩, -⟩:=bH.three;rw[hw5] at a0 a1 a2;have Hw5:=hid hw5;clear hw5;have rA5:=rA.grow hG5;have rU5:=rU.grow hG5;have bR5:=(bR.grow hG4).grow hG5;clear rA rU hs;go_wp2_with fail;rw[←Hw5.out];refine (Zjc aa _ ca C R s.1 _ rA5 hsp.la hR hC).mono ?_;rintro e w6 ⟨rfl,hG6⟩;have hkm:Zhy s C R={rows:=((R-Zac s.1 C R:Nat):Int),cols:=(R:Int),cells:=s.2.drop (Zac s.1 C R*R)}:=rfl;rw[hkm] at Hy;clear hkm;generalize Zac s.1 C R=t at *;have bV6:=bV.grow hG6;have bM6:=((bM.grow hG4).grow hG5).grow hG6;obtain ⟨⟨v0,v1,v2⟩, -⟩:=bV6.three;obtain ⟨⟨m0,m1,m2⟩, -⟩:=bM6.three;have rU6:=rU5.grow hG6;have bR6:=bR5.grow hG6;have hGt:=((hG.trans hG4).trans hG5).trans hG6;have hRR:R*R<=24*24:=Nat.mul_le_mul hR hR;have htR2:t*R<=R*R:=Nat.mul_le_mul_right _ htR;have hcu:=rU6.row.le;have u1:=Zaf (i:=t) (c:=R) (by omega) (by omega);have r1:=T_ints.atL (a:=au) (n:=R*R) (cap:=cu) (l:=t*R) (i:=(t:Int)*R) (by simp) (by omega);have rs:=rU6.sub (l:=t*R) (k:=R*R) htR2 (Nat.le_refl _);have hlu:=hsp.lu;have hLt:(s.2.drop (t*R)).take (R*R-t*R)=s.2.drop (t*R):=List.take_of_length_le (by simp;omega);rw[hLt] at rs;have hnr:NumL (s.2.drop (t*R)):=fun x hx=>hsp.nu x (List.mem_of_mem_drop hx);generalize hnn:R-t=nn at *;generalize hbm:Zdg {rows:=(nn:Int),cols:=(R:Int),cells:=s.2.drop (t*R)}=BM at *;generalize hbo:Zda {rows:=(nn:Int),cols:=(R:Int),cells:=s.2.drop (t*R)}=bo at *;have hlen:(s.2.drop (t*R)).length=R*R-t*R:=by simp;omega
  generalize s.2.drop (t*R)=L at *;generalize hN:R*R-t*R=N at *;have hsub:((R:Int)-(t:Int))=(nn:Int):=by omega
  have hnn24:nn<=24:=by omega
  have Hbm:=hid hbm;have Hbo:=hid hbo;have Hsub:=hid hsub;have hN2:N<=576:=by omega
  have hs6:=hGt.size;have hlt6:w.heap.size+1<w6.heap.size:=bR6.lt;clear hbm hbo hLt hN hsub hlu hnn a0 a1 a2;go_wp2;refine ZcI (S:=Grow w6) (T:=fun _=>True) [0,1,2,3,4,5,7,8,9,10,11,12,13] [6,14,15,16,20] [17,18,19] [([],some 21),([22],none)] Zm (by kernel_rfl) (fun _ _ _ _ _ h=>h) (Grow.refl _).drew ?_;show wpQuiet _ _ _ _ [_,_,_,_,_,_,_,_,_,_,_,_,_] _;repeat (first |(go_big_quiet_want;(first |refine Za ZM rfl rfl (fun w' hG=>hG.cell m0) ?_|refine Za ZaC rfl rfl (fun w' hG=>hG.cell v2) ?_|refine ZgL (x:= .tmp 30) (l:= .tmp 34) rfl r1 ?_);go_big_quiet_on;simp only[putP])|go_big_quiet_step (exact fun _=>rfl))
  refine wpQuiet_nil ?_;refine ⟨by kernel_rfl,KerPost w6.heap.size N L (nn:Int) (R:Int) BM bo,fun _ _=>none,KerPost.stays,(fun _ _ _ _ _ h=>by cases h),(fun _ _ _=>rfl), ?_, ?_, ?_⟩
  ·intro i hi o ho a' w7 hGw hSw hdep hfr K hK;have hs7:=hSw.size;simp only[List.mem_cons,List.not_mem_nil,or_false] at hi;rcases hi with rfl|rfl|rfl|rfl|rfl
   ·obtain rfl:=Option.some.inj (show some _=some _ from ho);refine Zgh rfl T_ints ?_;exact hK _ _ ((Grow.refl _).alloc _ _) (hSw.alloc _ _) ⟨_,rfl,Own.freshAt rfl (by unfold maxLen;omega) rfl⟩ (fun _ h=>by cases h)
   ·obtain rfl:=Option.some.inj (show some _=some _ from ho);obtain ⟨g,e,hE⟩: ∃ g,a'.tmps.getD 28 undef= .slice (some ⟨g,0,none⟩) 0 0/\Own w7 3 1 (some ⟨g,0,none⟩) 0 0 []:=hdep 6 (by decide) ⟨⟨6, .data⟩,by simp,rfl,rfl⟩ 28 rfl;have e35:a'.eval (.tmp 35)= .slice (ZdQ au cu (t*R) 1) N (cu-t*R):=hfr 35 (by decide);by_cases hN0:N=0
    ·have hL0:L=[]:=List.eq_nil_of_length_eq_zero (by omega);rw[hN0] at e35;refine Zlw (s:= .tmp 28) (x:= .tmp 35) rfl T_ints e e35 ?_;exact hK _ _ (Grow.refl _) hSw ⟨g,0,by rw[hN0],by rw[hN0,hL0];exact hE⟩ (fun _ h=>by cases h)
    ·refine ZpL (s:= .tmp 28) (x:= .tmp 35) rfl T_ints e (Row.emptyAt (S:=fun _=>True)) e35 (rs.grow hSw).row (by omega) (by omega) (by unfold maxLen;omega) ?_;intro c' w8 h1 h2;rw[Nat.zero_add] at h1 ⊢;exact hK _ _ h2 (hSw.trans h2) ⟨_,c',rfl,h1⟩ (fun _ h=>by cases h)
   ·obtain rfl:=Option.some.inj (show some _=some _ from ho);obtain ⟨g,c,e,hE⟩: ∃ g c,a'.tmps.getD 36 undef= .slice (some ⟨g,0,none⟩) N c/\Own w7 3 1 (some ⟨g,0,none⟩) N c (ints L):=hdep 14 (by decide) ⟨⟨14, .data⟩,by simp,rfl,rfl⟩ 36 rfl;have e25:a'.eval (.tmp 25)=Yv Yi (nn:Int):=(by rw[←Hsub.out];exact hfr 25 (by decide));refine ZmL (x:= .tmp 25) (y:= .tmp 27) (z:= .tmp 36) rfl e25 (hfr 27 (by decide)) e (Znj _ _ _ _ _) ?_;exact hK _ _ (Grow.refl _) hSw ⟨g,c,rfl,hE⟩ (fun _ h=>by cases h)
   ·obtain rfl:=Option.some.inj (show some _=some _ from ho);obtain ⟨g,c,e,hE⟩: ∃ g c,a'.tmps.getD 37 undef= .agg #[Yv Yi (nn:Int),Yv Yi (R:Int), .slice (some ⟨g,0,none⟩) N c]/\Own w7 3 1 (some ⟨g,0,none⟩) N c (ints L):=hdep 15 (by decide) ⟨⟨15, .data⟩,by simp,rfl,rfl⟩ 37 rfl;refine ZgR (x:= .tmp 37) rfl Tryz.func128 rfl rfl e ?_;have vK:VM w7 (fun _=>True) (.agg #[Yv Yi (nn:Int),Yv Yi (R:Int), .slice (some ⟨g,0,none⟩) N c]) {rows:=(nn:Int),cols:=(R:Int),cells:=L}:=
     ⟨_,_,c,rfl,hE.rdI (fun _ _=>trivial) (ZA hnr),by show I64 (nn:Int);unfold I64;omega,by show I64 (R:Int);unfold I64;omega⟩
    refine (ZmC vK (by unfold bdM;simp only;omega)).mono ?_;rintro e w8 ⟨r,rfl,hO,hG8⟩;rw[Hbm.out] at hO;rw[Hbo.out];exact ⟨_,rfl,hK _ w8 hG8 (hSw.trans hG8) ⟨r,rfl,hO.weak fun b _ hb=>Nat.le_trans hs7 hb.1⟩ (fun _ h=>by cases h)⟩
   ·obtain rfl:=Option.some.inj (show some _=some _ from ho);refine Zfw (z:= .agg #[Yv Yi 0,Yv Yi 0, .slice none 0 0]) rfl (by rfl) ?_;exact hK _ _ ((Grow.refl _).alloc _ _) (hSw.alloc _ _) ⟨w7.heap.size,rfl,hs7,Blk.new _ _ _⟩ (fun _ h=>by cases h)
  ·intro i hi o ho a' w7 hGw hSw hdep hfr;simp only[List.mem_cons,List.not_mem_nil,or_false] at hi;rcases hi with rfl|rfl|rfl
   ·obtain rfl:=Option.some.inj (show some _=some _ from ho);have d3: ∃ r,a'.tmps.getD 38 undef= .tuple #[r, .bool bo]/\OM w7 (fun g=>w6.heap.size<=g) r BM:=hdep 16 (by decide) ⟨⟨16, .data⟩,by simp,rfl,rfl⟩ 38 rfl;exact ⟨a'.tmps.getD 38 undef,fun _ _=>rfl,d3⟩
   ·obtain rfl:=Option.some.inj (show some _=some _ from ho);obtain ⟨r,e4,hO⟩: ∃ r,a'.tmps.getD 21 undef= .tuple #[r, .bool bo]/\OM w7 (fun g=>w6.heap.size<=g) r BM:=hdep 17 (by decide) ⟨⟨17, .data⟩,by simp,rfl,rfl⟩ 21 rfl;exact ⟨r,fun w' _=>Zcp (x:= .tmp 21) rfl e4 rfl w',hO⟩
   ·obtain rfl:=Option.some.inj (show some _=some _ from ho);obtain ⟨r,e4,hO⟩: ∃ r,a'.tmps.getD 21 undef= .tuple #[r, .bool bo]/\OM w7 (fun g=>w6.heap.size<=g) r BM:=hdep 17 (by decide) ⟨⟨17, .data⟩,by simp,rfl,rfl⟩ 21 rfl;exact ⟨.bool bo,fun w' _=>Zcp (x:= .tmp 21) rfl e4 rfl w',rfl⟩
  ·intro vs' w7 hGw hSw hP _;apply ZeX
   ·show _=([some 28,some 36,some 37,some 38,some 8,some 21,some 39,some 40]:List (Option Tmp))
    kernel_rfl
   simp only[Zgd,List.cons_append,List.nil_append,List.map_cons,List.map_nil,List.zip_cons_cons,List.zip_nil_right,Act.put,List.setIfInBounds_toArray,List.set_cons_succ,List.set_cons_zero];refine ⟨?_⟩;have p5:OM w7 (fun g=>w6.heap.size<=g) (vs' 18) BM:=hP 18 (by decide);have p6:vs' 19= .bool bo:=hP 19 (by decide);obtain ⟨g,p7,hzg,hBg⟩: ∃ g,vs' 20= .pointer (some ⟨g,0,none⟩)/\w6.heap.size<=g/\Blk w7 g #[Yv Yi 0,Yv Yi 0, .slice none 0 0] 28:=hP 20 (by decide);obtain ⟨ra,rn,rc,e5,oR,rR,fR,i1,i2⟩:=p5;have hne:=oR.ne_blk hBg (by decide);rw[e5,p6,p7];clear hP e5 p6 p7;show wpQuiet _ _ _ _ [] _;apply wpQuiet_nil;apply Zh rfl;intro K hK;obtain ⟨⟨z0,z1,z2⟩,g0,g1,g2⟩:=hBg.three;go_wp2_with fail;have hK3:Keep (fun q=>q≠g) w7 (((w7.setCell ⟨g,0,none⟩ (Yv Yi BM.rows)).setCell ⟨g,1,none⟩ (Yv Yi BM.cols)).setCell ⟨g,2,none⟩ (.slice ra rn rc)):=
    (((Keep.refl _ w7).setCell (fun _ e=>e rfl) _).setCell (fun _ e=>e rfl) _).setCell (fun _ e=>e rfl) _
   have hB3:Blk (((w7.setCell ⟨g,0,none⟩ (Yv Yi BM.rows)).setCell ⟨g,1,none⟩ (Yv Yi BM.cols)).setCell ⟨g,2,none⟩ (.slice ra rn rc)) g #[Yv Yi BM.rows,Yv Yi BM.cols, .slice ra rn rc] 28:=((hBg.set 0 _).set 1 _).set 2 _;have hG3:=hSw.keep hK3 fun q hq=>(by omega);have oR3:=oR.keep hK3 fun q hq _ e=>hne (e▸hq);refine hK _ _ hG3 ?_;clear hK K;generalize hw8:(((w7.setCell ⟨g,0,none⟩ (Yv Yi BM.rows)).setCell ⟨g,1,none⟩ (Yv Yi BM.cols)).setCell ⟨g,2,none⟩ (.slice ra rn rc))=w8 at *;clear hw8 hK3 z0 z1 z2 g0 g1 g2;show wpQuiet _ _ _ _ [_] _;(try (conv=>arg 6;simp only[putP]));(repeat (first |(go_big_quiet_want;(first |refine Za ZM rfl rfl (fun w' hG=>hG.cell m0) ?_|refine Za ZaC rfl rfl (fun w' hG=>hG.cell v2) ?_|refine ZgL (x:= .tmp 30) (l:= .tmp 34) rfl r1 ?_);go_big_quiet_on;simp only[putP])|go_big_quiet_step (exact fun _=>rfl)));refine wpQuiet_nil ?_;refine Zi ?_;have bR8:=bR6.grow hG3;obtain ⟨⟨b0,b1,b2⟩,f0,f1,f2⟩:=bR8.three;obtain ⟨⟨z0,z1,z2⟩, -⟩:=hB3.three;have hK9:Keep (fun q=>q≠w.heap.size+1) w8 (((w8.setCell ⟨w.heap.size+1,0,none⟩ (Yv Yi BM.rows)).setCell ⟨w.heap.size+1,1,none⟩ (Yv Yi BM.cols)).setCell ⟨w.heap.size+1,2,none⟩ (.slice ra rn rc)):=
    (((Keep.refl _ w8).setCell (fun _ e=>e rfl) _).setCell (fun _ e=>e rfl) _).setCell (fun _ e=>e rfl) _
   have hof:=oR3.keep hK9 (fun q hq _ e=>by have:=fR q hq;omega);have hBf:=((bR8.set 0 (Yv Yi BM.rows)).set 1 (Yv Yi BM.cols)).set 2 (.slice ra rn rc);have hGf:=(hGt.trans hG3).keep hK9 fun q hq=>(by omega);go_wp2;refine Zf Zb rfl rfl rfl hBf ⟨_,by rw[Hy.out.1];rfl,by rw[Hy.out.2];exact ⟨ra,rn,rc,rfl,hof,rR,fun q hq=>⟨by have:=fR q hq;omega,hof.lt hq⟩,i1,i2⟩,hGf⟩
theorem Zlx (h:VM w S v m) (hb:bdM m<=1048576):
  Calls Tryz.prog 96 #[v] w fun e w'=> ∃ r,e= .returned (.tuple #[r, .bool (ZcW m)])/\OM w' (New w w') r (Zcb m)/\Grow w w':=by
 have hVM:=h;obtain ⟨a,n,c,rfl,h,hr,hc⟩:=h;cases hB:Zg m with
 |false=>exact Zms hVM hb hB
 |true=>obtain ⟨R,C,hmr,hmc,hR,hC,hl,hnum⟩:=ZD hB;obtain ⟨mr,mc,cells⟩:=m;simp only at hmr hmc hl hnum;subst hmr;subst hmc;exact Zlk h hl hnum hR hC

end Go.Proofs.YtgeoehnbpkediaaGreat
