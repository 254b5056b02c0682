/- The program's FactorsOf. -/
import Derived.Test.YtjpcgofidijigaaGreatDoorZWkN
set_option maxHeartbeats 8000000
set_option maxRecDepth 100000
namespace Go.Proofs.YtjpcgofidijigaaGreatDoor
open Go.RowKit
open Lib (hid)
open Go.Value renaming int->Yv
open Go.IntKind renaming i64->Yi
variable {A B m:Mat} {C n:Nat} {S T:Nat->Prop} {v:Value} {w:World}
def dgL (L:List Int) (E i:Nat):Int:=if i<E then cell L E i i else 0
theorem ZoO {m:List Int} (h:dgL m C n≠0):Zb9 m C (min (n+1) C)=Zb9 m C (min n C)++[dgL m C n]:=by
 unfold dgL at h ⊢;by_cases hn:n<C
 ·rw[if_pos hn] at h ⊢;rw[show min (n+1) C=n+1 by omega,show min n C=n by omega];exact ZpK h
 ·rw[if_neg hn] at h;exact (h rfl).elim
theorem ZpV {m:List Int} (h:dgL m C n=0):Zb9 m C (min (n+1) C)=Zb9 m C (min n C):=by
 unfold dgL at h;by_cases hn:n<C
 ·rw[if_pos hn] at h;rw[show min (n+1) C=n+1 by omega,show min n C=n by omega];exact ZrP h
 ·rw[show min (n+1) C=min n C by omega]
theorem Zr1 (h:ZeF m=false):Zek m=[]:=by
 unfold ZeF at h;unfold Zek;cases hf:Zes m with
 |none=>rfl
 |some x=>rw[hf] at h;cases h
theorem ZmU {L:List Int} (h:NumL L) (E i:Nat): -400000000<=dgL L E i/\dgL L E i<=400000000:=by
 unfold dgL;split
 ·exact Zo h E i i
 ·omega
theorem Zid (aa:Option Addr) (na ca D E i:Nat) (L:List Int) (w:World) (h:RdI w S aa na ca L) (hl:L.length=D*E) (hD:D<=24) (hE:E<=24) (hi:i<D):
  Calls Tryz.prog 77 #[.agg #[Yv Yi D,Yv Yi E, .slice aa na ca],Yv Yi i] w fun e w'=>e= .returned (Yv Yi (dgL L E i))/\Grow w w':=by
 have hDE:D*E<=24*24:=Nat.mul_le_mul hD hE;have hna:na=D*E:=by rw[←h.len];exact hl
 subst hna;have hG0:=(Grow.refl w).alloc #[Yv Yi (D:Int),Yv Yi (E:Int), .slice aa (D*E) ca] 34;have bM:=Blk.new w #[Yv Yi (D:Int),Yv Yi (E:Int), .slice aa (D*E) ca] 34;obtain ⟨⟨a0,a1,a2⟩, -⟩:=bM.three;have hlt:=bM.lt;by_cases hiE:i<E
 ·have Hd:=hid (show dgL L E i=cell L E i i by unfold dgL;rw[if_pos hiE]);have hni:i*E+i<D*E:=Zr hiE hi;have Hg:=hid (show L[i*E+i]? =some (cell L E i i) from ZM (by rw[hl];exact hni));clear hni;go_enter Tryz.func77,Tryz.ntmps77;go_wp2_with fail;refine (Zai aa _ ca E i i (i*E+i) (D:Int) _ L _ (h.grow hG0) rfl Hg.out (by omega) (by omega) (by omega) (by omega)).mono ?_;rintro e w2 ⟨rfl,hG2⟩;go_wp2;go_ret;exact ⟨by rw[Hd.out];rfl,hG0.trans hG2⟩
 ·have hEi:E<=i:=by omega
  have Hd:=hid (show dgL L E i=0 by unfold dgL;rw[if_neg hiE]);go_enter Tryz.func77,Tryz.ntmps77;go_wp2;go_ret;exact ⟨by rw[Hd.out];rfl,hG0⟩
theorem ZoG (h:VM w S v m) (hb:bdM m<=1048576):
  Calls Tryz.prog 76 #[v] w fun e w'=>Grow w w'/\ ∃ D E aa na ca L b ub un uk vb vn vk ur uc vr vc,FacPk w' (fun _=>True) m D E aa na ca L b/\e= .returned (.tuple #[.agg #[Yv Yi ((D:Nat):Int),Yv Yi ((E:Nat):Int), .slice aa na ca], .agg #[Yv Yi ur,Yv Yi uc, .slice ub un uk], .agg #[Yv Yi vr,Yv Yi vc, .slice vb vn vk], .bool b]):=by
 have hVM:=h;obtain ⟨a,n,c,rfl,h,hr,hc⟩:=h;cases hB:Ze m with
 |false=>refine (Zhx hVM hb hB).mono ?_;rintro e w' ⟨rfl,hG⟩;exact ⟨hG,0,0,none,0,0,[],false,_,_,_,_,_,_,_,_,_,_,FacPk.zero (Zne hB),rfl⟩
 |true=>
  obtain ⟨R,C,hmr,hmc,hR,hC,hl,hnum⟩:=Zn hB;obtain ⟨mr,mc,cells⟩:=m;simp only at hmr hmc hl hnum h;subst hmr;subst hmc;refine (ZnL h hl hnum hR hC).mono ?_;rintro e w' ⟨hG,(⟨hn,rfl⟩|⟨s,aa,ca,ub,un,uk,vb,vn,vk,hs,rfl,rA⟩)⟩
  ·exact ⟨hG,0,0,none,0,0,[],false,_,_,_,_,_,_,_,_,_,_,FacPk.zero (by rw[ZlT hB,hn];rfl),rfl⟩
  ·have hS:=Zi7 hl hnum hs;have hf:=Zmm (m:={rows:=(R:Int),cols:=(C:Int),cells:=cells}) (by rw[ZlT hB,hs];rfl);exact ⟨hG,R,C,aa,R*C,ca,s.1,true,ub,un,uk,vb,vn,vk,_,_,_,_,⟨rA.weak (fun _ _ _=>trivial),hS.la,hS.na,hR,hC,hf.1,hf.2⟩,rfl⟩
theorem Zn5 (h:VM w S v m) (hb:bdM m<=1048576):
  Calls Tryz.prog 44 #[v] w fun e w'=> ∃ x,e= .returned (.tuple #[x, .bool (ZeF m)])/\OI w' (New w w') x (Zek m)/\Grow w w':=by
 have hVM:=h;obtain ⟨a,n,c,rfl,h,hr,hc⟩:=h;have hG1:=(Grow.refl w).alloc #[Yv Yi m.rows,Yv Yi m.cols, .slice a n c] 34;go_enter Tryz.func44,Tryz.ntmps44;go_wp2_with fail;refine (ZoG (hVM.grow hG1) hb).mono ?_;rintro e w2 ⟨hG2,D,E,aa,na,ca,L,b,ub,un,uk,vb,vn,vk,ur,uc,vr,vc,hP,rfl⟩;have hok:=hP.ok;have hfac:=hP.fac;have hD:=hP.hD;have hE:=hP.hE;have hG12:=hG1.trans hG2;obtain ⟨w3,hw3,hG3,bD, -, -, -, -⟩:=al4 w2 #[Yv Yi ((D:Nat):Int),Yv Yi ((E:Nat):Int), .slice aa na ca] 34 #[Yv Yi ur,Yv Yi uc, .slice ub un uk] 34 #[Yv Yi vr,Yv Yi vc, .slice vb vn vk] 34 #[] 3;have hO:Own w3 3 1 (some ⟨w2.heap.size+1+1+1,0,none⟩) 0 0 []:=by rw[hw3];exact Own.freshAt (cs:= #[]) (by simp) (by unfold maxLen;omega) rfl
 have rd:=(hP.rd.weak (T:=fun g=>g<w2.heap.size) (fun g hg _=>hg)).grow hG3;have hs12:=hG12.size;have hs3:=hG3.size;have hle3:w2.heap.size+1+1+1<w3.heap.size:=by rw[hw3];simp
 have hlen:=hP.len;have hnum:=hP.num;have Hok:=hid hok;have Hfac:=hid hfac;have Hw3:=hid hw3;clear hw3 hP hok hfac;cases b with
 |false=>
  have He:=hid (show Zek m=[] by rw[Zr1 Hok.out]);go_wp2;rw[←Hw3.out]
  go_ret2
  exact ⟨_,by rw[Hok.out];rfl,by rw[He.out];exact ⟨_,0,0,rfl,hO,(fun x hx=>by cases hx),fun g hg=>⟨by simp at hg;omega,hO.lt hg⟩⟩,hG12.trans hG3⟩
 |true=>
  go_wp2;rw[←Hw3.out];go_loopw [8,9,10] (fun ov iv _ wr=>Keep (fun g=>g<w2.heap.size\/g=w2.heap.size) w3 wr/\ ∃ (i n1 c1:Nat) (a1:Option Addr),i<=D/\iv=Yv Yi i/\ov= .slice a1 n1 c1/\n1<=i/\Own wr 3 1 a1 n1 c1 (ints (Zb9 L E (min i E)))/\(∀ g,blk a1=some g->w2.heap.size<g)) (fun _ iv _ _=>D-(intOf iv).toNat);case atStart=>exact ⟨Keep.refl _ _,0,0,0,_,Nat.zero_le _,rfl,rfl,Nat.le_refl _,by rw[Nat.zero_min];exact hO,fun g hg=>by simp at hg;omega⟩
  case round=>
   clear hO;obtain ⟨hK,i,n1,c1,a1,hi,rfl,rfl,hn1,hO,hlo⟩:=hrel;have bDr:=bD.keep hK (.inr rfl);have rdr:=rd.keep hK (fun g _ hg=> .inl hg);obtain ⟨⟨d0,d1,d2⟩, -⟩:=bDr.three;have hltD:=bDr.lt;by_cases hiD:i<D
   ·go_wp2_with fail;refine (Zid aa na ca D E i L _ rdr hlen hD hE hiD).mono ?_;rintro e w5 ⟨rfl,hG5⟩;have hxn:=ZmU hnum E i;by_cases hx0:dgL L E i=0
    ·have Hs:=hid (ZpV hx0);rw[hx0];clear hx0 hxn;go_wp2;go_roundw;case rel=>exact ⟨hK.trans hG5.any,i+1,n1,c1,a1,by omega,by go_num,rfl,by omega,by rw[Hs.out];exact hO.grow hG5,hlo⟩
     case measure=>simp[intOf];omega
    ·have Hs:=hid (ZoO hx0);have q3:(dgL L E i !=0)=true:=(by simpa using hx0);have hO5:=(hO.grow hG5).grow ((Grow.refl w5).alloc #[Yv Yi (dgL L E i)] 3);have hK5:=hK.trans (hG5.trans ((Grow.refl w5).alloc #[Yv Yi (dgL L E i)] 3)).any;clear hx0;go_wp2_with (at_builtin;refine Zx rfl (.tmp 33) (.tmp 35) _ rfl T_ints rfl hO5 rfl (Row.bAt6 (S:=fun _=>True) 1 rfl (by unfold maxLen;omega) rfl (fun _=>trivial)) (by simp[Value.oneCell']) (by omega) (by unfold maxLen;omega) ?_;intro a6 c6 w6 hA6);have hO6:Own w6 3 1 a6 (n1+1) c6 (ints (Zb9 L E (min (i+1) E))):=(by have:=hA6.own;rw[Hs.out];simpa [ints] using this);have hK6:Keep (fun g=>g<w2.heap.size\/g=w2.heap.size) w3 w6:=hK5.trans (hA6.keep.mono fun q _ hq e=>by have:=hlo q e;omega);have hlo6: ∀ g,blk a6=some g->w2.heap.size<g:=fun g hg=>by
      rcases hA6.new with e|⟨q,e,hq⟩
      ·exact hlo g (e▸hg)
      ·rw[e] at hg;obtain rfl:=Option.some.inj hg;simp at hq;have:=hG5.size;omega
     clear hA6 hO5 hK5 q3 hxn;go_wp2;go_roundw;case rel=>exact ⟨hK6,i+1,n1+1,c6,a6,by omega,by go_num,by go_num,by omega,hO6,hlo6⟩
     case measure=>simp[intOf];omega
   ·have hiE:D=i:=(by omega);have He:=hid (show Zek m=Zb9 L E (min i E) by rw[Hfac.out,hiE]);subst hiE;go_wp2
    go_ret2
    exact ⟨_,by rw[Hok.out];rfl,by rw[He.out];exact ⟨a1,n1,c1,rfl,hO,Zy (ZqX hnum),fun g hg=>⟨by have:=hlo g hg;omega,hO.lt hg⟩⟩,Grow.keep (S:=fun g=>g<w2.heap.size\/g=w2.heap.size) (hG12.trans hG3) hK (fun g hg=> .inl (by omega))⟩
def ZeV (xs:List Int):Mat:={rows:=xs.length,cols:=1,cells:=xs}
theorem Zf4 (a:Option Addr) (n cap:Nat) (xs:List Int) (w:World) (h:RdI w S a n cap xs) (hn:n<=2097152):
  Calls Tryz.prog 89 #[.slice a n cap] w fun e w'=> ∃ r,e= .returned r/\OM w' (New w w') r (ZeV xs)/\Grow w w':=by
 have hl:=h.len;go_enter Tryz.func89,Tryz.ntmps89;have hE:Own (((w.alloc (.cells #[Yv Yi 0,Yv Yi 0, .slice none 0 0] 34)).alloc (.cells #[] 3))) 3 1 (some ⟨w.heap.size+1,0,none⟩) 0 0 []:=Own.freshAt (by simp) (by unfold maxLen;omega) rfl;have hbz:=(Blk.new w #[Yv Yi 0,Yv Yi 0, .slice none 0 0] 34).alloc (.cells #[] 3);have hGz:Grow w ((w.alloc (.cells #[Yv Yi 0,Yv Yi 0, .slice none 0 0] 34)).alloc (.cells #[] 3)):=((Grow.refl _).alloc _ _).alloc _ _;go_wp2_with (at_builtin;refine Zx rfl (.tmp 5) (.tmp 6) _ rfl T_ints rfl hE rfl (h.row.grow (((Grow.refl _).alloc _ _).alloc _ _)) (Zc9 _) (by omega) (by unfold maxLen;omega) ?_;intro a2 c2 w2 hA2;obtain ⟨⟨z0,z1,z2⟩,g0,g1,g2⟩:=(hbz.keep hA2.keep (by simp)).three);have hB2:=hbz.keep hA2.keep (by simp);have hG2:Grow w w2:=hA2.grow hGz (fun g hg=>by simp at hg;omega);have hl2:=hA2.lo (B:=w.heap.size+1) (by simp) (fun g hg=>by simp at hg;omega);have ho2:Own w2 3 1 a2 n c2 (ints xs):=by simpa using hA2.own
 have hK:Keep (fun q=>q≠w.heap.size) w2 (((w2.setCell ⟨w.heap.size,0,none⟩ (Yv Yi (n:Int))).setCell ⟨w.heap.size,1,none⟩ (Yv Yi 1)).setCell ⟨w.heap.size,2,none⟩ (.slice a2 n c2)):=
  (((Keep.refl _ w2).setCell (fun _ e=>e rfl) _).setCell (fun _ e=>e rfl) _).setCell (fun _ e=>e rfl) _
 have hof:=ho2.keep hK (fun g hg _ e=>by have:=hl2 g hg;omega);refine ZF Zc rfl rfl rfl (((hB2.set 0 (Yv Yi (n:Int))).set 1 (Yv Yi 1)).set 2 (.slice a2 n c2)) ⟨_,rfl,⟨a2,n,c2,by unfold ZeV;rw[←hl];rfl,hof,h.rng,fun g hg=>⟨by have:=hl2 g hg;omega,hof.lt hg⟩,by simp only[ZeV,I64,hl];omega,by simp[ZeV,I64]⟩,hG2.keep hK fun q hq=>by omega⟩
theorem ZlJ (x y:Int) (w:World):Calls Tryz.prog 127 #[Yv Yi x,Yv Yi y] w fun e w'=> ∃ b,e= .returned (.bool b)/\w=w':=by
 by_cases h:y=0
 ·have q:(y==0)=true:=by simp[h]
  subst h;go_enter Tryz.func127,Tryz.ntmps127;go_wp2;go_ret;exact ⟨_,rfl,rfl⟩
 ·have q:(y==0)=false:=by simp[h]
  have q2: ¬ y=0:=h;go_enter Tryz.func127,Tryz.ntmps127;go_wp2;go_ret;exact ⟨_,rfl,rfl⟩
theorem ZeU (A B:Mat):Ze (Zu A B)=true:=by
 unfold Zu;split
 ·unfold okM;split
  ·assumption
  ·rfl
 ·rfl
def ColPost (B:Nat) (A X:Mat):Nat->Value->World->Prop
 |2,v,w=>OM w (fun g=>B<=g) v X
 |3,v,w=> ∃ y,v= .tuple #[y, .bool (ZB A X)]/\OM w (fun g=>B<=g) y (Zu A X)
 |4,v,w=> ∃ y,v= .tuple #[y, .bool (ZB A X)]/\OM w (fun g=>B<=g) y (Zu A X)
 |5,v,w=>OM w (fun g=>B<=g) v (Zu A X)
 |6,v,_=>v= .bool (ZB A X)
 |7,v,w=> ∃ g,v= .pointer (some ⟨g,0,none⟩)/\B<=g/\Blk w g #[Yv Yi 0,Yv Yi 0, .slice none 0 0] 34
 |_,_,_=>True
theorem ColPost.stays {z:Nat}: ∀ i v w w',Grow w w'->ColPost z A B i v w->ColPost z A B i v w':=fun i v w w' hG h=>by
 unfold ColPost at *;split at h
 ·exact h.grow hG
 ·obtain ⟨r,h1,h2⟩:=h;exact ⟨r,h1,h2.grow hG⟩
 ·obtain ⟨r,h1,h2⟩:=h;exact ⟨r,h1,h2.grow hG⟩
 ·exact h.grow hG
 ·exact h
 ·obtain ⟨g,h1,h2,h3⟩:=h;exact ⟨g,h1,h2,h3.grow hG⟩
 ·trivial
theorem Zfc {P:Program} {fn:Func} {R:Ending->World->Prop} {a:Act} {ty:TypeId} {cs ds es:Array Value} {p q r u v:Tmp} {g g' g'':Nat} {t:TypeId} (hT:StT P ty cs.size) (hT':StT P ty ds.size) (hT'':StT P ty es.size) (h:fn.results= #[.cell p ty, .cell q ty, .cell r ty, .tmp u, .tmp v]) (hd:a.defers=[]) (hp:a.tmps.getD p undef= .pointer (some ⟨g,0,none⟩)) (hq:a.tmps.getD q undef= .pointer (some ⟨g',0,none⟩)) (hr:a.tmps.getD r undef= .pointer (some ⟨g'',0,none⟩))
  (hb:Blk w g cs t) (hb':Blk w g' ds t) (hb'':Blk w g'' es t) (hR:R (.returned (.tuple #[.agg cs, .agg ds, .agg es,a.tmps.getD u undef,a.tmps.getD v undef])) w):bodyPost P fn R .ret a w:=by
 have hp':a.tmps[p]?.getD undef= .pointer (some ⟨g,0,none⟩):=by simpa using hp
 have hq':a.tmps[q]?.getD undef= .pointer (some ⟨g',0,none⟩):=by simpa using hq
 have hr':a.tmps[r]?.getD undef= .pointer (some ⟨g'',0,none⟩):=by simpa using hr
 refine bodyPost_ret (v:= .tuple #[.agg cs, .agg ds, .agg es,a.tmps.getD u undef,a.tmps.getD v undef]) ?_ hd hR;simp[results,h,hp',hq',hr',asAddr,hT.load hb,hT'.load hb',hT''.load hb'']
theorem Zgf (h:ZB A B=true):(Zu A B).rows=A.rows/\(Zu A B).cols=B.cols:=by
 unfold ZB at h;rw[Bool.and_eq_true] at h;unfold Zu okM;rw[if_pos h.1,if_pos h.2];exact ⟨rfl,rfl⟩
def SmP (w:World) (m:Mat) (d1 d2:Int) (da:Option Addr) (dn dc:Nat) (v1 v2:Int) (va:Option Addr) (vn vc:Nat) (ca:Option Addr) (cn cc:Nat):Prop:=
 ∃ (R C:Nat) (D V cs:List Int),m.rows=R/\m.cols=C/\R<=24/\C<=24/\d1=R/\d2=C/\v1=C/\v2=C/\RdI w (fun _=>True) da dn dc D/\D.length=R*C/\NumL D/\RdI w (fun _=>True) va vn vc V/\V.length=C*C/\NumL V/\RdI w (fun _=>True) ca cn cc cs/\NumL cs/\cs.length=R
theorem ZnV {a xa:Option Addr} {c xn xc:Nat} {xs:List Int} (h:RdI w S a n c m.cells) (hr:I64 m.rows) (hc:I64 m.cols) (hb:m.cells.length<=1048576) (hX:RdI w T xa xn xc xs) (hxn:xn<=1048576):
  Calls Tryz.prog 86 #[.agg #[Yv Yi m.rows,Yv Yi m.cols, .slice a n c], .slice xa xn xc] w fun e w'=> ∃ d1 d2 da dn dc u1 u2 ua un uc v1 v2 va vn vc ca cn cc ok,e= .returned (.tuple #[.agg #[Yv Yi d1,Yv Yi d2, .slice da dn dc], .agg #[Yv Yi u1,Yv Yi u2, .slice ua un uc], .agg #[Yv Yi v1,Yv Yi v2, .slice va vn vc], .slice ca cn cc, .bool ok])/\(ok=true->SmP w' m d1 d2 da dn dc v1 v2 va vn vc ca cn cc)/\Grow w w':=by
 have hxl:=hX.len;obtain ⟨w1,hw1,hG,bM,bR1,bR2,bR3, -⟩:=al4 w #[Yv Yi m.rows,Yv Yi m.cols, .slice a n c] 34 #[Yv Yi 0,Yv Yi 0, .slice none 0 0] 34 #[Yv Yi 0,Yv Yi 0, .slice none 0 0] 34 #[Yv Yi 0,Yv Yi 0, .slice none 0 0] 34;have hV:VM w1 S (.agg #[Yv Yi m.rows,Yv Yi m.cols, .slice a n c]) m:=⟨a,n,c,rfl,h.grow hG,hr,hc⟩;have rX:=hX.grow hG;obtain ⟨⟨m0,m1,m2⟩, -⟩:=bM.three;have hltM:=bM.lt;rw[hw1] at m0 m1 m2 hltM;have Hw1:=hid hw1;have hs1:=bR3.lt;have h1:w.heap.size<=w.heap.size+1:=by omega
 have h2:w.heap.size<=w.heap.size+1+1:=by omega
 have h3:w.heap.size<=w.heap.size+1+1+1:=by omega
 have n12:w.heap.size+1≠w.heap.size+1+1:=by omega
 have n13:w.heap.size+1≠w.heap.size+1+1+1:=by omega
 have n23:w.heap.size+1+1≠w.heap.size+1+1+1:=by omega
 clear hw1 hX;go_enter Tryz.func86,Tryz.ntmps86;go_wp2_with fail;rw[←Hw1.out];clear m0 m1 m2 hltM;cases hB:Ze m
 case' false=>refine (Zhx hV (by unfold bdM;omega) hB).mono ?_;rintro e w2 ⟨rfl,hG2⟩;obtain ⟨w3,hw3,hG3, -, -, -, -⟩:=al3 w2 #[Yv Yi 0,Yv Yi 0, .slice none 0 0] 34 #[Yv Yi 0,Yv Yi 0, .slice none 0 0] 34 #[Yv Yi 0,Yv Yi 0, .slice none 0 0] 34;have Hw3:=hid hw3;clear hw3
 case' true=>
  obtain ⟨R,C,hmr,hmc,hR,hC,hl,hnum⟩:=Zn hB;have hg:=h.grow hG;rw[hmr,hmc];refine (ZiY hg hl hnum hR hC).mono ?_;rintro e w2 ⟨hG2,hr⟩;rcases hr with ⟨-,rfl⟩|⟨s,aa,ca,ub,uc,vb,vc, -,rfl,⟨hoA,hlA,hnA⟩,rU,rV,hS⟩
  case' inl=>obtain ⟨w3,hw3,hG3, -, -, -, -⟩:=al3 w2 #[Yv Yi 0,Yv Yi 0, .slice none 0 0] 34 #[Yv Yi 0,Yv Yi 0, .slice none 0 0] 34 #[Yv Yi 0,Yv Yi 0, .slice none 0 0] 34;have Hw3:=hid hw3;clear hw3
  case' inr=>
   obtain ⟨w3,hw3,hG3,bD,bU,bV, -⟩:=al3 w2 #[Yv Yi (R:Int),Yv Yi (C:Int), .slice aa (R*C) ca] 34 #[Yv Yi (R:Int),Yv Yi (R:Int), .slice ub (R*R) uc] 34 #[Yv Yi (C:Int),Yv Yi (C:Int), .slice vb (C*C) vc] 34;obtain ⟨⟨m0,m1,m2⟩, -⟩:=((bM.grow hG2).grow hG3).three;have hltM:=((bM.grow hG2).grow hG3).lt;rw[hw3] at m0 m1 m2 hltM;rw[hmr] at m0;have Hw3:=hid hw3;clear hw3;by_cases hne:xn=R
   case' neg=>have q0:((xn:Int)!=(R:Int))=true:=by simp;omega
   case' pos=>
    subst hne;have q0:((xn:Int)!=(xn:Int))=false:=(by simp);have hUU:xn*xn<=24*24:=Nat.mul_le_mul hR hR;go_wp2;rw[←Hw3.out];obtain ⟨wb,rfl⟩: ∃ z,z=w3:=⟨_,rfl⟩;have b2:=bU;have vA:VM wb (fun q=>w1.heap.size<=q) (.agg #[Yv Yi (xn:Int),Yv Yi (xn:Int), .slice ub (xn*xn) uc]) {rows:=(xn:Int),cols:=(xn:Int),cells:=s.2.1}:=⟨ub,_,uc,rfl,rU.grow hG3,by show I64 (xn:Int);unfold I64;omega,by show I64 (xn:Int);unfold I64;omega⟩;have hbA:bdM {rows:=(xn:Int),cols:=(xn:Int),cells:=s.2.1}<=2097152:=(by unfold bdM;simp only;have:=hS.lu;omega);replace rX:=(rX.grow hG2).grow hG3;clear m0 m1 m2 hltM;have hbX:bdM (ZeV xs)<=2097152:=(by show xs.length<=_;omega);obtain ⟨X,hX⟩: ∃ X,X=ZeV xs:=⟨_,rfl⟩;rw[←hX] at hbX;have HX:=hid hX;clear hX;refine Zam (S:=Grow wb) (T:=fun _=>True) [0,1] [2,3,7] [4,5,6] [([],some 8),([9],none)] Zm (by kernel_rfl) (fun _ _ _ _ _ h=>h) (Grow.refl _).drew ?_;show wpQuiet _ _ _ _ [_,_] _;(repeat (first |(go_big_quiet_want;refine Zh Zc rfl rfl (fun w' hG=>b2.grow hG) ?_;go_big_quiet_on;simp only[putP])|go_big_quiet_step (exact fun _=>rfl)));refine wpQuiet_nil ?_;refine ⟨by kernel_rfl,ColPost wb.heap.size {rows:=(xn:Int),cols:=(xn:Int),cells:=s.2.1} X,fun _ _=>none,ColPost.stays,(fun _ _ _ _ _ h=>by cases h),(fun _ _ _=>rfl), ?_, ?_, ?_⟩
    ·intro i hi o ho b wi hGw hSw hdep hfr K hK;have t27:b.tmps.getD 35 undef= .agg #[Yv Yi (xn:Int),Yv Yi (xn:Int), .slice ub (xn*xn) uc]:=hfr 35 (by decide);have t28:b.tmps.getD 36 undef= .slice xa xn xc:=hfr 36 (by decide);have hs2:=hSw.size;simp only[List.mem_cons,List.not_mem_nil,or_false] at hi;rcases hi with rfl|rfl|rfl
     ·obtain rfl:=Option.some.inj (show some _=some _ from ho);refine Zfr (x:= .tmp 36) rfl Tryz.func89 rfl rfl t28 ?_;refine (Zf4 _ _ _ xs _ (rX.grow hSw) (by omega)).mono ?_;rintro e wi ⟨y,rfl,hO,hG3⟩;exact ⟨y,rfl,hK y wi hG3 (hSw.trans hG3) (by rw[←HX.out] at hO;exact hO.weak fun b _ hb=>Nat.le_trans hs2 hb.1) (fun _ h=>by cases h)⟩
     ·obtain rfl:=Option.some.inj (show some _=some _ from ho);have d1:OM wi (fun g=>wb.heap.size<=g) (b.tmps.getD 37 undef) X:=hdep 2 (by decide) ⟨⟨2, .data⟩,by simp,rfl,rfl⟩ 37 rfl;refine Zba (x:= .tmp 35) (y:= .tmp 37) rfl Tryz.func88 rfl rfl t27 rfl ?_;refine (Zcl (vA.grow hSw) (d1.rd (S:=fun _=>True) fun _ _=>trivial) hbA hbX).mono ?_;rintro e wi ⟨y,rfl,hO,hG3⟩;exact ⟨_,rfl,hK _ wi hG3 (hSw.trans hG3) ⟨y,rfl,hO.weak fun b _ hb=>Nat.le_trans hs2 hb.1⟩ (fun _ h=>by cases h)⟩
     ·obtain rfl:=Option.some.inj (show some _=some _ from ho);refine Zbn (z:= .agg #[Yv Yi 0,Yv Yi 0, .slice none 0 0]) rfl (by rfl) ?_;exact hK _ _ ((Grow.refl _).alloc _ _) (hSw.alloc _ _) ⟨wi.heap.size,rfl,hs2,Blk.new _ _ _⟩ (fun _ h=>by cases h)
    ·intro i hi o ho b wi hGw hSw hdep hfr;simp only[List.mem_cons,List.not_mem_nil,or_false] at hi;rcases hi with rfl|rfl|rfl
     ·obtain rfl:=Option.some.inj (show some _=some _ from ho);have d3: ∃ y,b.tmps.getD 38 undef= .tuple #[y, .bool (ZB {rows:=(xn:Int),cols:=(xn:Int),cells:=s.2.1} X)]/\OM wi (fun g=>wb.heap.size<=g) y (Zu {rows:=(xn:Int),cols:=(xn:Int),cells:=s.2.1} X):=hdep 3 (by decide) ⟨⟨3, .data⟩,by simp,rfl,rfl⟩ 38 rfl;exact ⟨b.tmps.getD 38 undef,fun _ _=>rfl,d3⟩
     ·obtain rfl:=Option.some.inj (show some _=some _ from ho);obtain ⟨y,e4,hO⟩: ∃ y,b.tmps.getD 34 undef= .tuple #[y, .bool (ZB {rows:=(xn:Int),cols:=(xn:Int),cells:=s.2.1} X)]/\OM wi (fun g=>wb.heap.size<=g) y (Zu {rows:=(xn:Int),cols:=(xn:Int),cells:=s.2.1} X):=hdep 4 (by decide) ⟨⟨4, .data⟩,by simp,rfl,rfl⟩ 34 rfl;exact ⟨y,fun w' _=>ZP (x:= .tmp 34) rfl e4 rfl w',hO⟩
     ·obtain rfl:=Option.some.inj (show some _=some _ from ho);obtain ⟨y,e4,hO⟩: ∃ y,b.tmps.getD 34 undef= .tuple #[y, .bool (ZB {rows:=(xn:Int),cols:=(xn:Int),cells:=s.2.1} X)]/\OM wi (fun g=>wb.heap.size<=g) y (Zu {rows:=(xn:Int),cols:=(xn:Int),cells:=s.2.1} X):=hdep 4 (by decide) ⟨⟨4, .data⟩,by simp,rfl,rfl⟩ 34 rfl;exact ⟨.bool (ZB {rows:=(xn:Int),cols:=(xn:Int),cells:=s.2.1} X),fun w' _=>ZP (x:= .tmp 34) rfl e4 rfl w',rfl⟩
    intro vs wi hGw hSw hP _;apply ZbK
    ·show _=([some 37,some 38,some 13,some 34,some 39,some 40]:List (Option Tmp))
     kernel_rfl
    simp only[Zc3,List.cons_append,List.nil_append,List.map_cons,List.map_nil,List.zip_cons_cons,List.zip_nil_right,Act.put,List.setIfInBounds_toArray,List.set_cons_succ,List.set_cons_zero];refine ⟨?_⟩;have p5:OM wi (fun g=>wb.heap.size<=g) (vs 5) (Zu {rows:=(xn:Int),cols:=(xn:Int),cells:=s.2.1} X):=hP 5 (by decide);have p6:vs 6= .bool (ZB {rows:=(xn:Int),cols:=(xn:Int),cells:=s.2.1} X):=hP 6 (by decide);obtain ⟨g,p7,hzg,hBg⟩: ∃ g,vs 7= .pointer (some ⟨g,0,none⟩)/\wb.heap.size<=g/\Blk wi g #[Yv Yi 0,Yv Yi 0, .slice none 0 0] 34:=hP 7 (by decide);obtain ⟨ap,np,cp,e5,op,xp,fp,ip,jp⟩:=p5;have hne:=op.ne_blk hBg (by decide);rw[e5,p6,p7];show wpQuiet _ _ _ _ [] _;apply wpQuiet_nil;apply Zf rfl;intro K hK;obtain ⟨⟨z0,z1,z2⟩,g0,g1,g2⟩:=hBg.three;go_wp2_with fail;have hK3:Keep (fun q=>q≠g) wi (((wi.setCell ⟨g,0,none⟩ (Yv Yi (Zu {rows:=(xn:Int),cols:=(xn:Int),cells:=s.2.1} X).rows)).setCell ⟨g,1,none⟩ (Yv Yi (Zu {rows:=(xn:Int),cols:=(xn:Int),cells:=s.2.1} X).cols)).setCell ⟨g,2,none⟩ (.slice ap np cp)):=
     (((Keep.refl _ wi).setCell (fun _ e=>e rfl) _).setCell (fun _ e=>e rfl) _).setCell (fun _ e=>e rfl) _
    have b4:Blk (((wi.setCell ⟨g,0,none⟩ (Yv Yi (Zu {rows:=(xn:Int),cols:=(xn:Int),cells:=s.2.1} X).rows)).setCell ⟨g,1,none⟩ (Yv Yi (Zu {rows:=(xn:Int),cols:=(xn:Int),cells:=s.2.1} X).cols)).setCell ⟨g,2,none⟩ (.slice ap np cp)) g #[Yv Yi (Zu {rows:=(xn:Int),cols:=(xn:Int),cells:=s.2.1} X).rows,Yv Yi (Zu {rows:=(xn:Int),cols:=(xn:Int),cells:=s.2.1} X).cols, .slice ap np cp] 34:=((hBg.set 0 _).set 1 _).set 2 _;have hG24:=hSw.keep hK3 fun q hq=>(by omega);have r4:=(op.keep hK3 fun q hq _ e=>hne (e▸hq)).rdI (S:=fun q=>wb.heap.size<=q) (fun q hq=>fp q hq) xp;refine hK _ _ hG24 ?_;clear hK K;generalize hw4:(((wi.setCell ⟨g,0,none⟩ (Yv Yi (Zu {rows:=(xn:Int),cols:=(xn:Int),cells:=s.2.1} X).rows)).setCell ⟨g,1,none⟩ (Yv Yi (Zu {rows:=(xn:Int),cols:=(xn:Int),cells:=s.2.1} X).cols)).setCell ⟨g,2,none⟩ (.slice ap np cp))=wz at *;clear hw4 hK3 z0 z1 z2 g0 g1 g2;show wpQuiet _ _ _ _ [_] _;(try (conv=>arg 6;simp only[putP]));(repeat (first |(go_big_quiet_want;refine Zh Zc rfl rfl (fun w' hG=>b2.grow hG) ?_;go_big_quiet_on;simp only[putP])|go_big_quiet_step (exact fun _=>rfl)));refine wpQuiet_nil ?_;refine Zk ?_;clear hP hSw hGw op e5 p6 p7 hBg hne;have hGz:=(hG.trans hG2).trans (hG3.trans hG24);have r1:=((bR1.grow hG2).grow hG3).grow hG24;have r2:=((bR2.grow hG2).grow hG3).grow hG24;have r3:=((bR3.grow hG2).grow hG3).grow hG24;have bDz:=bD.grow hG24;have bUz:=bU.grow hG24;have bVz:=bV.grow hG24;have hs2:=hG2.size;have hs3:=hG3.size;have nD:w2.heap.size≠w.heap.size+1/\w2.heap.size≠w.heap.size+1+1/\w2.heap.size≠w.heap.size+1+1+1:=⟨by omega,by omega,by omega⟩;have nU:w2.heap.size+1≠w.heap.size+1/\w2.heap.size+1≠w.heap.size+1+1/\w2.heap.size+1≠w.heap.size+1+1+1:=⟨by omega,by omega,by omega⟩;have nV:w2.heap.size+1+1≠w.heap.size+1/\w2.heap.size+1+1≠w.heap.size+1+1/\w2.heap.size+1+1≠w.heap.size+1+1+1:=⟨by omega,by omega,by omega⟩;have nE:g≠w.heap.size+1/\g≠w.heap.size+1+1/\g≠w.heap.size+1+1+1:=⟨by omega,by omega,by omega⟩;have oDz:=((hoA.rdI (S:=fun q=>w1.heap.size<=q) hlA (Zy hnA)).grow hG3).grow hG24;have oVz:=(rV.grow hG3).grow hG24;have hMm:=Zn (ZeU {rows:=(xn:Int),cols:=(xn:Int),cells:=s.2.1} X);have hMs:=Zgf (A:={rows:=(xn:Int),cols:=(xn:Int),cells:=s.2.1}) (B:=X);have HMm:=hid hMm;have HMs:=hid hMs;obtain ⟨Z,hZ⟩: ∃ Z,Z=Zu {rows:=(xn:Int),cols:=(xn:Int),cells:=s.2.1} X:=⟨_,rfl⟩;obtain ⟨ok,hok⟩: ∃ b,b=ZB {rows:=(xn:Int),cols:=(xn:Int),cells:=s.2.1} X:=⟨_,rfl⟩;rw[←hZ] at b4 r4 HMm HMs ip jp;rw[←hok] at HMs ⊢;obtain ⟨⟨e0,e1,e2⟩, -⟩:=b4.three;have lte:=b4.lt;clear hMm hMs hZ hok bR1 bR2 bR3 bD bU bV b2 vA rU rV hoA rX hG24 xp fp hbX hbA;go_wp2;refine Zg (S:=(Keep (fun q=>q≠w.heap.size+1/\q≠w.heap.size+1+1/\q≠w.heap.size+1+1+1) wz)) [([0,1,2,3,4,5],some 6),([],some 7),([],some 8),([9,10],none)] Zm (by kernel_rfl) (fun _ _ _ _ _ h=>h) (Keep.refl _ _).drew ?_;show wpQuiet _ _ _ _ [_,_,_,_,_,_] _;(repeat (first |(go_big_quiet_want;(first |refine Zh Zc rfl rfl (fun w' hG=>bDz.keep hG nD) ?_|refine Zh Zc rfl rfl (fun w' hG=>bUz.keep hG nU) ?_|refine Zh Zc rfl rfl (fun w' hG=>bVz.keep hG nV) ?_|refine Za ZdE rfl rfl (fun w' hG=>hG.cell nE e2) ?_);go_big_quiet_on;simp only[putP])|go_big_quiet_step (exact fun _=>rfl)));refine wpQuiet_nil ?_;obtain ⟨wa,hwa⟩: ∃ wa,wa=wz.drew:=⟨_,rfl⟩;rw[←hwa];have hGa:Grow wz wa:=(by rw[hwa];exact (Grow.refl _).drew);clear hwa;have rA:=r1.grow hGa;have rB:=r2.grow hGa;have rC:=r3.grow hGa;refine Zf rfl (fun K hK=> ?_);obtain ⟨⟨a0,a1,a2⟩,f0,f1,f2⟩:=rA.three;go_wp2_with fail;have hK1:Keep (fun q=>q≠w.heap.size+1) wa (((wa.setCell ⟨w.heap.size+1,0,none⟩ (Yv Yi (xn:Int))).setCell ⟨w.heap.size+1,1,none⟩ (Yv Yi (C:Int))).setCell ⟨w.heap.size+1,2,none⟩ (.slice aa (xn*C) ca)):=
     (((Keep.refl _ wa).setCell (fun _ e=>e rfl) _).setCell (fun _ e=>e rfl) _).setCell (fun _ e=>e rfl) _
    have rA1:=((rA.set 0 (Yv Yi (xn:Int))).set 1 (Yv Yi (C:Int))).set 2 (.slice aa (xn*C) ca);have rB1:=rB.keep hK1 n12.symm;have rC1:=rC.keep hK1 n13.symm;refine hK _ _ (((hGa.mono fun _ _ _=>trivial).trans (hK1.mono fun q _ (hb:q≠w.heap.size+1/\q≠w.heap.size+1+1/\q≠w.heap.size+1+1+1)=>hb.1))) ?_;clear hK K;generalize (((wa.setCell ⟨w.heap.size+1,0,none⟩ (Yv Yi (xn:Int))).setCell ⟨w.heap.size+1,1,none⟩ (Yv Yi (C:Int))).setCell ⟨w.heap.size+1,2,none⟩ (.slice aa (xn*C) ca))=wb1 at *;clear a0 a1 a2 f0 f1 f2 rA rB rC;refine wpQuiet_nil ?_;refine Zf rfl (fun K hK=> ?_);obtain ⟨⟨b0,b1,b2⟩,g0,g1,g2⟩:=rB1.three;go_wp2_with fail;have hK2:Keep (fun q=>q≠w.heap.size+1+1) wb1 (((wb1.setCell ⟨w.heap.size+1+1,0,none⟩ (Yv Yi (xn:Int))).setCell ⟨w.heap.size+1+1,1,none⟩ (Yv Yi (xn:Int))).setCell ⟨w.heap.size+1+1,2,none⟩ (.slice ub (xn*xn) uc)):=
     (((Keep.refl _ wb1).setCell (fun _ e=>e rfl) _).setCell (fun _ e=>e rfl) _).setCell (fun _ e=>e rfl) _
    have rB2:=((rB1.set 0 (Yv Yi (xn:Int))).set 1 (Yv Yi (xn:Int))).set 2 (.slice ub (xn*xn) uc);have rA2:=rA1.keep hK2 n12;have rC2:=rC1.keep hK2 n23.symm;refine hK _ _ ((((hGa.mono fun _ _ _=>trivial).trans (hK1.mono fun q _ (hb:q≠w.heap.size+1/\q≠w.heap.size+1+1/\q≠w.heap.size+1+1+1)=>hb.1)).trans (hK2.mono fun q _ (hb:q≠w.heap.size+1/\q≠w.heap.size+1+1/\q≠w.heap.size+1+1+1)=>hb.2.1))) ?_;clear hK K;generalize (((wb1.setCell ⟨w.heap.size+1+1,0,none⟩ (Yv Yi (xn:Int))).setCell ⟨w.heap.size+1+1,1,none⟩ (Yv Yi (xn:Int))).setCell ⟨w.heap.size+1+1,2,none⟩ (.slice ub (xn*xn) uc))=wd at *;clear b0 b1 b2 g0 g1 g2 rA1 rB1 rC1;refine wpQuiet_nil ?_;refine Zf rfl (fun K hK=> ?_);obtain ⟨⟨c0,c1,c2⟩,k0,k1,k2⟩:=rC2.three;go_wp2_with fail;have hK3:Keep (fun q=>q≠w.heap.size+1+1+1) wd (((wd.setCell ⟨w.heap.size+1+1+1,0,none⟩ (Yv Yi (C:Int))).setCell ⟨w.heap.size+1+1+1,1,none⟩ (Yv Yi (C:Int))).setCell ⟨w.heap.size+1+1+1,2,none⟩ (.slice vb (C*C) vc)):=
     (((Keep.refl _ wd).setCell (fun _ e=>e rfl) _).setCell (fun _ e=>e rfl) _).setCell (fun _ e=>e rfl) _
    have rC3:=((rC2.set 0 (Yv Yi (C:Int))).set 1 (Yv Yi (C:Int))).set 2 (.slice vb (C*C) vc);have rA3:=rA2.keep hK3 n13;have rB3:=rB2.keep hK3 n23;have hKt:=((hGa.mono fun _ _ _=>trivial).trans (hK1.mono fun q _ (hb:q≠w.heap.size+1/\q≠w.heap.size+1+1/\q≠w.heap.size+1+1+1)=>hb.1)).trans (hK2.mono fun q _ (hb:q≠w.heap.size+1/\q≠w.heap.size+1+1/\q≠w.heap.size+1+1+1)=>hb.2.1) |>.trans (hK3.mono fun q _ (hb:q≠w.heap.size+1/\q≠w.heap.size+1+1/\q≠w.heap.size+1+1+1)=>hb.2.2);refine hK _ _ (hKt) ?_;clear hK K;show wpQuiet _ _ _ _ [_,_] _;(try (conv=>arg 6;simp only[putP]));(repeat (first |(go_big_quiet_want;(first |refine Zh Zc rfl rfl (fun w' hG=>bDz.keep hG nD) ?_|refine Zh Zc rfl rfl (fun w' hG=>bUz.keep hG nU) ?_|refine Zh Zc rfl rfl (fun w' hG=>bVz.keep hG nV) ?_|refine Za ZdE rfl rfl (fun w' hG=>hG.cell nE e2) ?_);go_big_quiet_on;simp only[putP])|go_big_quiet_step (exact fun _=>rfl)));refine wpQuiet_nil ?_;refine Zk ?_;have hGe:=hGz.keep hKt fun q hq=>⟨by omega,by omega,by omega⟩;have hnz: ∀ q,w1.heap.size<=q->q≠w.heap.size+1/\q≠w.heap.size+1+1/\q≠w.heap.size+1+1+1:=fun q hq=>⟨by omega,by omega,by omega⟩;have oDe:=(oDz.keep hKt fun q _ hq=>hnz q hq).weak (T:=fun _=>True) fun _ _ _=>trivial;have oVe:=(oVz.keep hKt fun q _ hq=>hnz q hq).weak (T:=fun _=>True) fun _ _ _=>trivial;have oCe:=(r4.keep hKt fun q _ hq=>hnz q (by omega)).weak (T:=fun _=>True) fun _ _ _=>trivial;go_wp2;refine Zfc Zc Zc Zc rfl rfl rfl rfl rfl rA3 rB3 rC3 ⟨_,_,_,_,_,_,_,_,_,_,_,_,_,_,_,_,_,_,ok,rfl,fun hk=> ?_,hGe⟩;obtain ⟨R',C',e1,e2, -, -,hl',hn'⟩:=HMm.out;obtain ⟨e3,e4⟩:=HMs.out hk;rw[HX.out] at e4;have hR':R'=xn:=(by have e5:(R':Int)=(xn:Int):=e1.symm.trans e3;omega);have hC':C'=1:=(by rw[e2] at e4;simp only[ZeV] at e4;omega);subst hR' hC';exact ⟨R',C,s.1,s.2.2,Z.cells,hmr,hmc,hR,hC,rfl,rfl,rfl,rfl,oDe,hS.la,hS.na,oVe,hS.lv,hS.nv,oCe,hn',by omega⟩
 all_goals
  have hG23:=hG2.trans hG3;replace hG:=hG.trans hG23;replace bR1:=bR1.grow hG23;replace bR2:=bR2.grow hG23;replace bR3:=bR3.grow hG23;obtain ⟨⟨a0,a1,a2⟩,f0,f1,f2⟩:=bR1.three;obtain ⟨⟨b0,b1,b2⟩,g0,g1,g2⟩:=bR2.three;obtain ⟨⟨c0,c1,c2⟩,k0,k1,k2⟩:=bR3.three;have hltA:=bR1.lt;have hltB:=bR2.lt;have hltC:=bR3.lt;rw[Hw3.out] at a0 a1 a2 f0 f1 f2 b0 b1 b2 g0 g1 g2 c0 c1 c2 k0 k1 k2 hltA hltB hltC;go_wp2;rw[←Hw3.out]
  exact Zfc Zc Zc Zc rfl rfl rfl rfl rfl
   (((((((((bR1.set 0 _).set 1 _).set 2 _).other n12 _).other n12 _).other n12 _).other n13 _).other n13 _).other n13 _)
   (((((((((bR2.other n12.symm _).other n12.symm _).other n12.symm _).set 0 _).set 1 _).set 2 _).other n23 _).other n23 _).other n23 _)
   (((((((((bR3.other n13.symm _).other n13.symm _).other n13.symm _).other n23.symm _).other n23.symm _).other n23.symm _).set 0 _).set 1 _).set 2 _)
   ⟨_,_,_,_,_,_,_,_,_,_,_,_,_,_,_,_,_,_,_,rfl,(fun h=>by cases h),((((((((hG.setCell h1 _).setCell h1 _).setCell h1 _).setCell h2 _).setCell h2 _).setCell h2 _).setCell h3 _).setCell h3 _).setCell h3 _⟩
theorem ZkB (aa:Option Addr) (na ca D E i:Nat) (L:List Int) (w:World) (h:RdI w S aa na ca L) (hl:L.length=D*E) (hn:NumL L) (hD:D<=24) (hE:E<=24):
  Calls Tryz.prog 77 #[.agg #[Yv Yi D,Yv Yi E, .slice aa na ca],Yv Yi i] w fun e w'=> ∃ x:Int,e= .returned (Yv Yi x)/\(-400000000<=x/\x<=400000000)/\(x≠0->i<D)/\Grow w w':=by
 by_cases h1:i<D
 ·refine (Zid aa na ca D E i L w h hl hD hE h1).mono ?_;rintro e w' ⟨rfl,hG⟩;exact ⟨_,rfl,ZmU hn E i,fun _=>h1,hG⟩
 ·have hG0:=(Grow.refl w).alloc #[Yv Yi (D:Int),Yv Yi (E:Int), .slice aa na ca] 34;have bM:=Blk.new w #[Yv Yi (D:Int),Yv Yi (E:Int), .slice aa na ca] 34;obtain ⟨⟨a0,a1,a2⟩, -⟩:=bM.three;have hlt:=bM.lt;have h2:D<=i:=by omega
  go_enter Tryz.func77,Tryz.ntmps77;go_wp2;go_ret;exact ⟨0,rfl,by omega,fun e=>(e rfl).elim,hG0⟩
theorem Zmh (aa ba:Option Addr) (na ca D E bn bc:Nat) (L bs:List Int) (w:World) (h:RdI w S aa na ca L) (hl:L.length=D*E) (hn:NumL L) (hD:D<=24) (hE:E<=24) (hb:RdI w T ba bn bc bs) (hbn:bn<=1000):
  Calls Tryz.prog 87 #[.agg #[Yv Yi D,Yv Yi E, .slice aa na ca], .slice ba bn bc] w fun e w'=> ∃ k:Int,e= .returned (Yv Yi k)/\Grow w w':=by
 obtain ⟨w1,hw1,hG1,bM, -⟩:=al1 w #[Yv Yi (D:Int),Yv Yi (E:Int), .slice aa na ca] 34;have Hw1:=hid hw1;clear hw1;go_enter Tryz.func87,Tryz.ntmps87;go_wp2;rw[←Hw1.out];go_loopw [8] (fun i wr=>Grow w1 wr/\ ∃ k:Nat,k<=bn/\i=Yv Yi k) (fun i _=>bn-(intOf i).toNat);case atStart=>exact ⟨Grow.refl _,0,Nat.zero_le _,rfl⟩
 case round=>
  obtain ⟨hG,k,hk,rfl⟩:=hrel;by_cases hlt:k<bn
  ·obtain ⟨bb,off,x,rfl,hx,hxr,_,hbw,hc⟩:=(hb.grow (hG1.trans hG)).at hlt;have bMr:=bM.grow hG;have hr:=(h.grow hG1).grow hG;clear hx hb;go_wp2;refine Zg (S:=Grow wr) [([0,1,2,3,4,5],some 6),([],some 7),([8],none)] Zm (by kernel_rfl) (fun _ _ _ _ _ h=>h) (Grow.refl _).drew ?_;show wpQuiet _ _ _ _ [_,_,_,_,_,_] _;(repeat (first |(go_big_quiet_want;(first |refine Za Zv rfl rfl (fun w' hG=>hG.cell hc) ?_|refine Zh Zc rfl rfl (fun w' hG=>bMr.grow hG) ?_);go_big_quiet_on;simp only[putP])|go_big_quiet_step (exact fun _=>rfl)));refine wpQuiet_nil ?_;refine Zf rfl (fun K hK=> ?_);go_wp2_with fail;refine (ZkB aa na ca D E k L _ (hr.grow (Grow.refl wr).drew) hl hn hD hE).mono ?_;rintro e w2 ⟨y,rfl, -, -,hG2⟩;have hGa:=(Grow.refl wr).drew.trans hG2;go_wp2_with fail;refine hK _ _ (hGa) ?_;clear hK K;refine wpQuiet_nil ?_;refine Zf rfl (fun K hK=> ?_);go_wp2_with fail;refine (ZlJ x y _).mono ?_;rintro e _ ⟨b,rfl,rfl⟩;go_wp2_with fail;refine hK _ _ (hGa) ?_;clear hK K;show wpQuiet _ _ _ _ [_] _;(try (conv=>arg 6;simp only[putP]));(repeat (first |(go_big_quiet_want;(first |refine Za Zv rfl rfl (fun w' hG=>hG.cell hc) ?_|refine Zh Zc rfl rfl (fun w' hG=>bMr.grow hG) ?_);go_big_quiet_on;simp only[putP])|go_big_quiet_step (exact fun _=>rfl)));refine wpQuiet_nil ?_;refine Zk ?_;cases b with
   |true=>
    go_wp2;go_roundw;case rel=>exact ⟨hG.trans hGa,k+1,by omega,by go_num⟩
    case measure=>simp[intOf];omega
   |false=>go_wp2;go_ret;exact ⟨_,rfl,hG1.trans (hG.trans hGa)⟩
  ·go_wp2;go_ret;exact ⟨_,rfl,hG1.trans hG⟩

end Go.Proofs.YtjpcgofidijigaaGreatDoor
