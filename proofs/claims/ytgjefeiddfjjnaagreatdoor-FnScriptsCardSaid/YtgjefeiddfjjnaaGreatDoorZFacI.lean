/- The program's FactorsOf. -/
import Derived.Test.YtgjefeiddfjjnaaGreatDoorZWkN
set_option maxHeartbeats 8000000
set_option maxRecDepth 100000
namespace Go.Proofs.YtgjefeiddfjjnaaGreatDoor
open Go.RowKit
open Lib (hid)
open Go.Value renaming int->Yv
open Go.IntKind renaming i64->Yi
open Grow renaming refl->JH
open List renaming mem_cons->JU,not_mem_nil->Kl
open Go.Proofs.Tryz renaming func109->Oz,func121->N8,ntmps109->O0,prog->JG
open Go.Proofs.Tryz
variable {A B m:Mat} {C n:Nat} {S T:Nat->Prop} {v:Value} {w:World}
def dgL (L:List Int) (E i:Nat):Int:=if i<E then cell L E i i else 0
theorem ZrE {m:List Int} (h:dgL m C n≠0):Zdg m C (min (n+1) C)=Zdg m C (min n C)++[dgL m C n]:=by
 unfold dgL at h ⊢;by_cases a:n<C
 ·rw[if_pos a] at h ⊢;rw[show min (n+1) C=n+1 by omega,show min n C=n by omega];exact Ztn h
 ·rw[if_neg a] at h;exact (h rfl).elim
theorem ZtY {m:List Int} (h:dgL m C n=0):Zdg m C (min (n+1) C)=Zdg m C (min n C):=by
 unfold dgL at h;by_cases a:n<C
 ·rw[if_pos a] at h;rw[show min (n+1) C=n+1 by omega,show min n C=n by omega];exact Zvp h
 ·rw[show min (n+1) C=min n C by omega]
theorem Zvd (h:Zf0 m=false):ZfO m=[]:=by
 unfold Zf0 at h;unfold ZfO;cases a:ZfH m with
 |none=>rfl
 |some x=>rw[a] at h;cases h
theorem ZpC {L:List Int} (h:NumL L) (E i:Nat): -400000000<=dgL L E i/\dgL L E i<=400000000:=by
 unfold dgL;split
 ·exact Zk h E i i
 ·omega
theorem ZjQ (aa:Option Addr) (na ca D E i:Nat) (L:List Int) (w:World) (h:RdI w S aa na ca L) (hl:L.length=D*E) (hD:D<=24) (hE:E<=24) (hi:i<D):
  Calls JG 109 #[.agg #[Yv Yi D,Yv Yi E, .slice aa na ca],Yv Yi i] w fun e w'=>e= .returned (Yv Yi (dgL L E i))/\Grow w w':=by
 have k:D*E<=24*24:=Nat.mul_le_mul hD hE;have d:na=D*E:=by rw[←h.len];exact hl
 subst d;have a:=(JH w).alloc #[Yv Yi (D:Int),Yv Yi (E:Int), .slice aa (D*E) ca] 37;have j:=Blk.new w #[Yv Yi (D:Int),Yv Yi (E:Int), .slice aa (D*E) ca] 37;obtain ⟨⟨o,p,q⟩, -⟩:=j.three;have l:=j.lt;by_cases b:i<E
 ·have f:=hid (show dgL L E i=cell L E i i by unfold dgL;rw[if_pos b]);have c:i*E+i<D*E:=Zf b hi;have m:=hid (show L[i*E+i]? =some (cell L E i i) from ZU (by rw[hl];exact c));clear c;go_enter Oz,O0;go_wp2_with fail;refine (ZaA aa _ ca E i i (i*E+i) (D:Int) _ L _ (h.grow a) rfl m.out I I I I).mono ?_;rintro e r ⟨rfl,g⟩;go_wp2;go_ret;exact ⟨by rw[f.out];rfl,a.trans g⟩
 ·have n:E<=i:=I
  have f:=hid (show dgL L E i=0 by unfold dgL;rw[if_neg b]);go_enter Oz,O0;go_wp2;go_ret;exact ⟨by rw[f.out];rfl,a⟩
theorem Zsi (h:VM w S v m) (hb:bdM m<=1048576):
  Calls JG 108 #[v] w fun e w'=>Grow w w'/\ ∃ D E aa na ca L b ub un uk vb vn vk ur uc vr vc,FacPk w' (fun _=>True) m D E aa na ca L b/\e= .returned (.tuple #[.agg #[Yv Yi ((D:Nat):Int),Yv Yi ((E:Nat):Int), .slice aa na ca], .agg #[Yv Yi ur,Yv Yi uc, .slice ub un uk], .agg #[Yv Yi vr,Yv Yi vc, .slice vb vn vk], .bool b]):=by
 have k:=h;obtain ⟨a,n,c,rfl,h,z,A⟩:=h;cases f:Zd m with
 |false=>refine (ZiM k hb f).mono ?_;rintro e w' ⟨rfl,j⟩;exact ⟨j,0,0,none,0,0,[],false,_,_,_,_,_,_,_,_,_,_,FacPk.zero (ZpS f),rfl⟩
 |true=>
  obtain ⟨R,C,g,i,o,p,l,d⟩:=Zl f;obtain ⟨B,F,cells⟩:=m;simp only at g i l d h;subst g;subst i;refine (Zq6 h l d o p).mono ?_;rintro e w' ⟨j,(⟨x,rfl⟩|⟨s,aa,ca,ub,un,uk,vb,vn,vk,q,rfl,y⟩)⟩
  ·exact ⟨j,0,0,none,0,0,[],false,_,_,_,_,_,_,_,_,_,_,FacPk.zero (by rw[ZoH f,x];rfl),rfl⟩
  ·have r:=Zhu l d q;have t:=Zom (m:={rows:=(R:Int),cols:=(C:Int),cells:=cells}) (by rw[ZoH f,q];rfl);exact ⟨j,R,C,aa,R*C,ca,s.1,true,ub,un,uk,vb,vn,vk,_,_,_,_,⟨y.weak (fun _ _ _=>trivial),r.la,r.na,o,p,t.1,t.2⟩,rfl⟩
theorem ZqD (h:VM w S v m) (hb:bdM m<=1048576):
  Calls JG 61 #[v] w fun e w'=> ∃ x,e= .returned (.tuple #[x, .bool (Zf0 m)])/\OI w' (New w w') x (ZfO m)/\Grow w w':=by
 have W:=h;obtain ⟨a,n,c,rfl,h,hr,hc⟩:=h;have A:=(JH w).alloc #[Yv Yi m.rows,Yv Yi m.cols, .slice a n c] 37;go_enter func61,ntmps61;go_wp2_with fail;refine (Zsi (W.grow A) hb).mono ?_;rintro e d ⟨X,D,E,aa,na,ca,L,b,ub,un,uk,vb,vn,vk,ur,uc,vr,vc,p,rfl⟩;have B:=p.ok;have r:=p.fac;have hD:=p.hD;have hE:=p.hE;have f:=A.trans X;obtain ⟨V,hw3,k,bD, -, -, -, -⟩:=al4 d #[Yv Yi ((D:Nat):Int),Yv Yi ((E:Nat):Int), .slice aa na ca] 37 #[Yv Yi ur,Yv Yi uc, .slice ub un uk] 37 #[Yv Yi vr,Yv Yi vc, .slice vb vn vk] 37 #[] 3;have l:Own V 3 1 (some ⟨d.heap.size+1+1+1,0,none⟩) 0 0 []:=Bg
 have rd:=(p.rd.weak (T:=fun g=>g<d.heap.size) (fun g hg _=>hg)).grow k;have ag:=f.size;have aj:=k.size;have ah:d.heap.size+1+1+1<V.heap.size:=Db
 have C:=p.len;have s:=p.num;have y:=hid B;have F:=hid r;have G:=hid hw3;clear hw3 p B r;cases b with
 |false=>
  have Y:=hid (show ZfO m=[] by rw[Zvd y.out]);go_wp2;rw[←G.out]
  go_ret2
  exact ⟨_,by rw[y.out];rfl,by rw[Y.out];exact ⟨_,0,0,rfl,l,(fun x hx=>AO),fun g hg=>⟨κ,l.lt hg⟩⟩,f.trans k⟩
 |true=>
  go_wp2;rw[←G.out];go_loopw [8,9,10] (fun ov Z _ wr=>Keep (fun g=>g<d.heap.size\/g=d.heap.size) V wr/\ ∃ (i t H:Nat) (z:Option Addr),i<=D/\Z=Yv Yi i/\ov= .slice z t H/\t<=i/\Own wr 3 1 z t H (ints (Zdg L E (min i E)))/\(∀ g,blk z=some g->d.heap.size<g)) (fun _ Z _ _=>D-(intOf Z).toNat);case atStart=>exact ⟨Keep.refl _ _,0,0,0,_,Nat.zero_le _,rfl,rfl,Nat.le_refl _,by rw[Nat.zero_min];exact l,fun g hg=>κ⟩
  case round=>
   clear l;obtain ⟨hK,i,t,H,z,hi,rfl,rfl,ak,l,hlo⟩:=hrel;have J:=bD.keep hK (.inr rfl);have ab:=rd.keep hK (fun g _ hg=> .inl hg);obtain ⟨⟨d0,d1,d2⟩, -⟩:=J.three;have ai:=J.lt;by_cases ad:i<D
   ·go_wp2_with fail;refine (ZjQ aa na ca D E i L _ ab C hD hE ad).mono ?_;rintro e w5 ⟨rfl,j⟩;have M:=ZpC s E i;by_cases hx0:dgL L E i=0
    ·have Hs:=hid (ZtY hx0);rw[hx0];clear hx0 M;go_wp2;go_roundw;case rel=>exact ⟨hK.trans j.any,i+1,t,H,z,I,Δ,rfl,I,by rw[Hs.out];exact l.grow j,hlo⟩
     case measure=>exact FN
    ·have Hs:=hid (ZrE hx0);have q3:(dgL L E i !=0)=true:=Bv;have N:=(l.grow j).grow ((JH w5).alloc #[Yv Yi (dgL L E i)] 3);have O:=hK.trans (j.trans ((JH w5).alloc #[Yv Yi (dgL L E i)] 3)).any;clear hx0;go_wp2_with (at_builtin;refine ZD rfl (.tmp 33) (.tmp 35) _ rfl T_ints rfl N rfl (Row.bAt6 (S:=fun _=>True) 1 rfl Γ rfl (fun _=>trivial)) γ I Γ ?_;intro a6 c6 w6 o);have ae:Own w6 3 1 a6 (t+1) c6 (ints (Zdg L E (min (i+1) E))):=(by have:=o.own;rw[Hs.out];simpa [ints] using this);have af:Keep (fun g=>g<d.heap.size\/g=d.heap.size) V w6:=O.trans (o.keep.mono fun q _ hq e=>by have:=hlo q e;omega);have P: ∀ g,blk a6=some g->d.heap.size<g:=fun g hg=>by
      rcases o.new with e|⟨q,e,hq⟩
      ·exact hlo g (e▸hg)
      ·rw[e] at hg;obtain rfl:=Option.some.inj hg;simp at hq;have:=j.size;omega
     clear o N O q3 M;go_wp2;go_roundw;case rel=>exact ⟨af,i+1,t+1,c6,a6,I,Δ,Δ,I,ae,P⟩
     case measure=>exact FN
   ·have R:D=i:=I;have Y:=hid (show ZfO m=Zdg L E (min i E) by rw[F.out,R]);subst R;go_wp2
    go_ret2
    exact ⟨_,by rw[y.out];rfl,by rw[Y.out];exact ⟨z,t,H,rfl,l,Zp (Zt0 s),fun g hg=>⟨Aw,l.lt hg⟩⟩,Grow.keep (S:=fun g=>g<d.heap.size\/g=d.heap.size) (f.trans k) hK (fun g hg=> .inl I)⟩
def Zgk (xs:List Int):Mat:={rows:=xs.length,cols:=1,cells:=xs}
theorem ZhB (a:Option Addr) (n cap:Nat) (xs:List Int) (w:World) (h:RdI w S a n cap xs) (hn:n<=2097152):
  Calls JG 121 #[.slice a n cap] w fun e w'=> ∃ r,e= .returned r/\OM w' (New w w') r (Zgk xs)/\Grow w w':=by
 have o:=h.len;go_enter N8,ntmps121;have p:Own (((w.alloc (.cells #[Yv Yi 0,Yv Yi 0, .slice none 0 0] 37)).alloc (.cells #[] 3))) 3 1 (some ⟨w.heap.size+1,0,none⟩) 0 0 []:=Own.freshAt Θ Γ rfl;have b:=(Blk.new w #[Yv Yi 0,Yv Yi 0, .slice none 0 0] 37).alloc (.cells #[] 3);have j:Grow w ((w.alloc (.cells #[Yv Yi 0,Yv Yi 0, .slice none 0 0] 37)).alloc (.cells #[] 3)):=((JH _).alloc _ _).alloc _ _;go_wp2_with (at_builtin;refine ZD rfl (.tmp 5) (.tmp 6) _ rfl T_ints rfl p rfl (h.row.grow (((JH _).alloc _ _).alloc _ _)) (ZdE _) I Γ ?_;intro d f i hA2;obtain ⟨⟨s,t,v⟩,x,y,z⟩:=(b.keep hA2.keep Θ).three);have k:=b.keep hA2.keep Θ;have l:Grow w i:=hA2.grow j (fun g hg=>κ);have hl2:=hA2.lo (B:=w.heap.size+1) Θ (fun g hg=>κ);have m:Own i 3 1 d n f (ints xs):=Dc
 have hK:Keep (fun q=>q≠w.heap.size) i (((i.setCell ⟨w.heap.size,0,none⟩ (Yv Yi (n:Int))).setCell ⟨w.heap.size,1,none⟩ (Yv Yi 1)).setCell ⟨w.heap.size,2,none⟩ (.slice d n f)):=
  kS
 have c:=m.keep hK (fun g hg _ e=>Bf);refine Zx Zc rfl rfl rfl (((k.set 0 (Yv Yi (n:Int))).set 1 (Yv Yi 1)).set 2 (.slice d n f)) ⟨_,rfl,⟨d,n,f,by unfold Zgk;rw[←o];rfl,c,h.rng,fun g hg=>⟨Bf,c.lt hg⟩,by simp only[Zgk,I64,o];omega,by simp[Zgk,I64]⟩,l.keep hK fun q A=>I⟩
theorem ZoF (x y:Int) (w:World):Calls JG 180 #[Yv Yi x,Yv Yi y] w fun e w'=> ∃ b,e= .returned (.bool b)/\w=w':=by
 by_cases h:y=0
 ·have q:(y==0)=true:=Ey
  subst h;exact J9
 ·have q:(y==0)=false:=Ey
  have a: ¬ y=0:=h;exact J9
theorem Zgn (A B:Mat):Zd (Zq A B)=true:=by
 unfold Zq;split
 ·unfold okM;split
  ·assumption
  ·rfl
 ·rfl
def ColPost (B:Nat) (A X:Mat):Nat->Value->World->Prop
 |2,v,w=>OM w (fun g=>B<=g) v X
 |3,v,w=> ∃ y,v= .tuple #[y, .bool (ZC A X)]/\OM w (fun g=>B<=g) y (Zq A X)
 |4,v,w=> ∃ y,v= .tuple #[y, .bool (ZC A X)]/\OM w (fun g=>B<=g) y (Zq A X)
 |5,v,w=>OM w (fun g=>B<=g) v (Zq A X)
 |6,v,_=>v= .bool (ZC A X)
 |7,v,w=> ∃ g,v= .pointer (some ⟨g,0,none⟩)/\B<=g/\Blk w g #[Yv Yi 0,Yv Yi 0, .slice none 0 0] 37
 |_,_,_=>True
theorem ColPost.stays {z:Nat}: ∀ i v w w',Grow w w'->ColPost z A B i v w->ColPost z A B i v w':=fun i v w w' hG h=>by
 unfold ColPost at *;split at h
 ·exact h.grow hG
 ·exact GJ
 ·exact GJ
 ·exact h.grow hG
 ·exact h
 ·exact Gy
 ·trivial
theorem ZgF {P:Program} {fn:Func} {R:Ending->World->Prop} {a:Act} {ty:TypeId} {cs ds es:Array Value} {p q r u v:Tmp} {g g' g'':Nat} {t:TypeId} (hT:StT P ty cs.size) (hT':StT P ty ds.size) (hT'':StT P ty es.size) (h:fn.results= #[.cell p ty, .cell q ty, .cell r ty, .tmp u, .tmp v]) (hd:a.defers=[]) (hp:a.tmps.getD p undef= .pointer (some ⟨g,0,none⟩)) (hq:a.tmps.getD q undef= .pointer (some ⟨g',0,none⟩)) (hr:a.tmps.getD r undef= .pointer (some ⟨g'',0,none⟩))
  (hb:Blk w g cs t) (hb':Blk w g' ds t) (hb'':Blk w g'' es t) (hR:R (.returned (.tuple #[.agg cs, .agg ds, .agg es,a.tmps.getD u undef,a.tmps.getD v undef])) w):bodyPost P fn R .ret a w:=by
 have hp':a.tmps[p]?.getD undef= .pointer (some ⟨g,0,none⟩):=Et
 have hq':a.tmps[q]?.getD undef= .pointer (some ⟨g',0,none⟩):=by simpa using hq
 have hr':a.tmps[r]?.getD undef= .pointer (some ⟨g'',0,none⟩):=by simpa using hr
 refine bodyPost_ret (v:= .tuple #[.agg cs, .agg ds, .agg es,a.tmps.getD u undef,a.tmps.getD v undef]) ?_ hd hR;exact J4
theorem ZhW (h:ZC A B=true):(Zq A B).rows=A.rows/\(Zq A B).cols=B.cols:=by
 unfold ZC at h;rw[Bool.and_eq_true] at h;unfold Zq okM;rw[if_pos h.1,if_pos h.2];exact Je
def SmP (w:World) (m:Mat) (d1 d2:Int) (da:Option Addr) (dn dc:Nat) (v1 v2:Int) (va:Option Addr) (vn vc:Nat) (ca:Option Addr) (cn cc:Nat):Prop:=
 ∃ (R C:Nat) (D V cs:List Int),m.rows=R/\m.cols=C/\R<=24/\C<=24/\d1=R/\d2=C/\v1=C/\v2=C/\RdI w (fun _=>True) da dn dc D/\D.length=R*C/\NumL D/\RdI w (fun _=>True) va vn vc V/\V.length=C*C/\NumL V/\RdI w (fun _=>True) ca cn cc cs/\NumL cs/\cs.length=R
theorem Zqi {a xa:Option Addr} {c xn xc:Nat} {xs:List Int} (h:RdI w S a n c m.cells) (hr:I64 m.rows) (hc:I64 m.cols) (hb:m.cells.length<=1048576) (hX:RdI w T xa xn xc xs) (hxn:xn<=1048576):
  Calls JG 118 #[.agg #[Yv Yi m.rows,Yv Yi m.cols, .slice a n c], .slice xa xn xc] w fun e w'=> ∃ d1 d2 da dn dc u1 u2 ua un uc v1 v2 va vn vc ca cn cc ok,e= .returned (.tuple #[.agg #[Yv Yi d1,Yv Yi d2, .slice da dn dc], .agg #[Yv Yi u1,Yv Yi u2, .slice ua un uc], .agg #[Yv Yi v1,Yv Yi v2, .slice va vn vc], .slice ca cn cc, .bool ok])/\(ok=true->SmP w' m d1 d2 da dn dc v1 v2 va vn vc ca cn cc)/\Grow w w':=by
 have bn:=hX.len;obtain ⟨w1,V,W,bM,v,D,j, -⟩:=al4 w #[Yv Yi m.rows,Yv Yi m.cols, .slice a n c] 37 #[Yv Yi 0,Yv Yi 0, .slice none 0 0] 37 #[Yv Yi 0,Yv Yi 0, .slice none 0 0] 37 #[Yv Yi 0,Yv Yi 0, .slice none 0 0] 37;have hV:VM w1 S (.agg #[Yv Yi m.rows,Yv Yi m.cols, .slice a n c]) m:=⟨a,n,c,rfl,h.grow W,hr,hc⟩;have rX:=hX.grow W;obtain ⟨⟨m0,m1,m2⟩, -⟩:=bM.three;have k:=bM.lt;rw[V] at m0 m1 m2 k;have az:=hid V;have bo:=j.lt;have h1:w.heap.size<=w.heap.size+1:=I
 have h2:w.heap.size<=w.heap.size+1+1:=I
 have h3:w.heap.size<=w.heap.size+1+1+1:=I
 have l:w.heap.size+1≠w.heap.size+1+1:=I
 have p:w.heap.size+1≠w.heap.size+1+1+1:=I
 have r:w.heap.size+1+1≠w.heap.size+1+1+1:=I
 clear V hX;go_enter func118,ntmps118;go_wp2_with fail;rw[←az.out];clear m0 m1 m2 k;cases hB:Zd m
 case' false=>refine (ZiM hV Bq hB).mono ?_;rintro e w2 ⟨rfl,f⟩;obtain ⟨w3,hw3,hG3, -, -, -, -⟩:=al3 w2 #[Yv Yi 0,Yv Yi 0, .slice none 0 0] 37 #[Yv Yi 0,Yv Yi 0, .slice none 0 0] 37 #[Yv Yi 0,Yv Yi 0, .slice none 0 0] 37;have Hw3:=hid hw3;clear hw3
 case' true=>
  obtain ⟨R,C,Y,ai,hR,hC,hl,aj⟩:=Zl hB;have hg:=h.grow W;rw[Y,ai];refine (ZkH hg hl aj hR hC).mono ?_;rintro e w2 ⟨f,hr⟩;rcases hr with ⟨-,rfl⟩|⟨s,aa,ca,ub,uc,vb,vc, -,rfl,⟨ak,a3,a4⟩,rU,rV,hS⟩
  case' inl=>obtain ⟨w3,hw3,hG3, -, -, -, -⟩:=al3 w2 #[Yv Yi 0,Yv Yi 0, .slice none 0 0] 37 #[Yv Yi 0,Yv Yi 0, .slice none 0 0] 37 #[Yv Yi 0,Yv Yi 0, .slice none 0 0] 37;have Hw3:=hid hw3;clear hw3
  case' inr=>
   obtain ⟨w3,hw3,hG3,bD,bU,bV, -⟩:=al3 w2 #[Yv Yi (R:Int),Yv Yi (C:Int), .slice aa (R*C) ca] 37 #[Yv Yi (R:Int),Yv Yi (R:Int), .slice ub (R*R) uc] 37 #[Yv Yi (C:Int),Yv Yi (C:Int), .slice vb (C*C) vc] 37;obtain ⟨⟨m0,m1,m2⟩, -⟩:=((bM.grow f).grow hG3).three;have k:=((bM.grow f).grow hG3).lt;rw[hw3] at m0 m1 m2 k;rw[Y] at m0;have Hw3:=hid hw3;clear hw3;by_cases N:xn=R
   case' neg=>have q0:((xn:Int)!=(R:Int))=true:=Ψ
   case' pos=>
    subst N;have q0:((xn:Int)!=(xn:Int))=false:=Θ;have bp:xn*xn<=24*24:=Nat.mul_le_mul hR hR;go_wp2;rw[←Hw3.out];obtain ⟨M,rfl⟩:=eX w3;have b2:=bU;have vA:VM M (fun q=>w1.heap.size<=q) (.agg #[Yv Yi (xn:Int),Yv Yi (xn:Int), .slice ub (xn*xn) uc]) {rows:=(xn:Int),cols:=(xn:Int),cells:=s.2.1}:=⟨ub,_,uc,rfl,rU.grow hG3,Ck,Ck⟩;have hbA:bdM {rows:=(xn:Int),cols:=(xn:Int),cells:=s.2.1}<=2097152:=(by unfold bdM;simp only;have:=hS.lu;omega);replace rX:=(rX.grow f).grow hG3;clear m0 m1 m2 k;have hbX:bdM (Zgk xs)<=2097152:=DA;obtain ⟨X,hX⟩:=eX (Zgk xs);rw[←hX] at hbX;have HX:=hid hX;clear hX;refine Zai (S:=Grow M) (T:=fun _=>True) [0,1] [2,3,7] [4,5,6] [([],some 8),([9],none)] ZaB Ξ (fun _ _ _ _ _ h=>h) (JH _).drew ?_;refine Zh ?_;refine ⟨Ξ,ColPost M.heap.size {rows:=(xn:Int),cols:=(xn:Int),cells:=s.2.1} X,fun _ _=>none,ColPost.stays,(fun _ _ _ _ _ h=>Ω),(fun _ _ _=>rfl), ?_, ?_, ?_⟩
    ·intro i hi o ho b wi ab hSw t ad K hK;have a5:b.tmps.getD 35 undef= .agg #[Yv Yi (xn:Int),Yv Yi (xn:Int), .slice ub (xn*xn) uc]:=ad 35 Φ;have a6:b.tmps.getD 36 undef= .slice xa xn xc:=ad 36 Φ;have hs2:=hSw.size;simp only[JU,Kl,or_false] at hi;rcases hi with rfl|rfl|rfl
     ·obtain rfl:=oI ho;refine Zdx (x:= .tmp 36) rfl N8 rfl rfl a6 ?_;exact GN
     ·obtain rfl:=oI ho;have d1:OM wi (fun g=>M.heap.size<=g) (b.tmps.getD 37 undef) X:=t 2 Φ ⟨⟨2, .data⟩,Θ,rfl,rfl⟩ 37 rfl;refine Zbr (x:= .tmp 35) (y:= .tmp 37) rfl func120 rfl rfl a5 rfl ?_;exact Gx
     ·exact FW
    ·intro i hi o ho b wi ab hSw t ad;simp only[JU,Kl,or_false] at hi;rcases hi with rfl|rfl|rfl
     ·obtain rfl:=oI ho;have d3: ∃ y,b.tmps.getD 38 undef= .tuple #[y, .bool (ZC {rows:=(xn:Int),cols:=(xn:Int),cells:=s.2.1} X)]/\OM wi (fun g=>M.heap.size<=g) y (Zq {rows:=(xn:Int),cols:=(xn:Int),cells:=s.2.1} X):=t 3 Φ ⟨⟨3, .data⟩,Θ,rfl,rfl⟩ 38 rfl;exact ⟨b.tmps.getD 38 undef,fun _ _=>rfl,d3⟩
     ·obtain rfl:=oI ho;obtain ⟨y,e4,hO⟩: ∃ y,b.tmps.getD 34 undef= .tuple #[y, .bool (ZC {rows:=(xn:Int),cols:=(xn:Int),cells:=s.2.1} X)]/\OM wi (fun g=>M.heap.size<=g) y (Zq {rows:=(xn:Int),cols:=(xn:Int),cells:=s.2.1} X):=t 4 Φ ⟨⟨4, .data⟩,Θ,rfl,rfl⟩ 34 rfl;exact ⟨y,fun w' _=>ZP (x:= .tmp 34) rfl e4 rfl w',hO⟩
     ·obtain rfl:=oI ho;obtain ⟨y,e4,hO⟩: ∃ y,b.tmps.getD 34 undef= .tuple #[y, .bool (ZC {rows:=(xn:Int),cols:=(xn:Int),cells:=s.2.1} X)]/\OM wi (fun g=>M.heap.size<=g) y (Zq {rows:=(xn:Int),cols:=(xn:Int),cells:=s.2.1} X):=t 4 Φ ⟨⟨4, .data⟩,Θ,rfl,rfl⟩ 34 rfl;exact ⟨.bool (ZC {rows:=(xn:Int),cols:=(xn:Int),cells:=s.2.1} X),fun w' _=>ZP (x:= .tmp 34) rfl e4 rfl w',rfl⟩
    intro vs wi ab hSw hP _;apply ZbU
    ·show _=([some 37,some 38,some 13,some 34,some 39,some 40]:List (Option Tmp))
     kernel_rfl
    simp only[Zdm,List.cons_append,List.nil_append,List.map_cons,List.map_nil,List.zip_cons_cons,List.zip_nil_right,Act.put,List.setIfInBounds_toArray,List.set_cons_succ,List.set_cons_zero];refine ⟨?_⟩;have p5:OM wi (fun g=>M.heap.size<=g) (vs 5) (Zq {rows:=(xn:Int),cols:=(xn:Int),cells:=s.2.1} X):=hP 5 Φ;have p6:vs 6= .bool (ZC {rows:=(xn:Int),cols:=(xn:Int),cells:=s.2.1} X):=hP 6 Φ;obtain ⟨g,p7,bq,O⟩: ∃ g,vs 7= .pointer (some ⟨g,0,none⟩)/\M.heap.size<=g/\Blk wi g #[Yv Yi 0,Yv Yi 0, .slice none 0 0] 37:=hP 7 Φ;obtain ⟨ap,np,cp,e5,op,xp,fp,ip,jp⟩:=p5;have N:=op.ne_blk O Φ;rw[e5,p6,p7];show wpQuiet _ _ _ _ [] _;apply wpQuiet_nil;apply Zu rfl;intro K hK;obtain ⟨⟨z0,z1,z2⟩,g0,g1,g2⟩:=O.three;go_wp2_with fail;have E:Keep (fun q=>q≠g) wi (((wi.setCell ⟨g,0,none⟩ (Yv Yi (Zq {rows:=(xn:Int),cols:=(xn:Int),cells:=s.2.1} X).rows)).setCell ⟨g,1,none⟩ (Yv Yi (Zq {rows:=(xn:Int),cols:=(xn:Int),cells:=s.2.1} X).cols)).setCell ⟨g,2,none⟩ (.slice ap np cp)):=
     kS
    have b4:Blk (((wi.setCell ⟨g,0,none⟩ (Yv Yi (Zq {rows:=(xn:Int),cols:=(xn:Int),cells:=s.2.1} X).rows)).setCell ⟨g,1,none⟩ (Yv Yi (Zq {rows:=(xn:Int),cols:=(xn:Int),cells:=s.2.1} X).cols)).setCell ⟨g,2,none⟩ (.slice ap np cp)) g #[Yv Yi (Zq {rows:=(xn:Int),cols:=(xn:Int),cells:=s.2.1} X).rows,Yv Yi (Zq {rows:=(xn:Int),cols:=(xn:Int),cells:=s.2.1} X).cols, .slice ap np cp] 37:=((O.set 0 _).set 1 _).set 2 _;have d:=hSw.keep E fun q H=>I;have r4:=(op.keep E fun q H _ e=>N (e▸H)).rdI (S:=fun q=>M.heap.size<=q) (fun q H=>fp q H) xp;refine hK _ _ d ?_;clear hK K;generalize a7:(((wi.setCell ⟨g,0,none⟩ (Yv Yi (Zq {rows:=(xn:Int),cols:=(xn:Int),cells:=s.2.1} X).rows)).setCell ⟨g,1,none⟩ (Yv Yi (Zq {rows:=(xn:Int),cols:=(xn:Int),cells:=s.2.1} X).cols)).setCell ⟨g,2,none⟩ (.slice ap np cp))=wz at *;clear a7 E z0 z1 z2 g0 g1 g2;refine Zh ?_;refine Ze ?_;clear hP hSw ab op e5 p6 p7 O N;have a8:=(W.trans f).trans (hG3.trans d);have r1:=((v.grow f).grow hG3).grow d;have r2:=((D.grow f).grow hG3).grow d;have r3:=((j.grow f).grow hG3).grow d;have br:=bD.grow d;have bs:=bU.grow d;have bt:=bV.grow d;have hs2:=f.size;have bv:=hG3.size;have nD:w2.heap.size≠w.heap.size+1/\w2.heap.size≠w.heap.size+1+1/\w2.heap.size≠w.heap.size+1+1+1:=⟨I,I,I⟩;have nU:w2.heap.size+1≠w.heap.size+1/\w2.heap.size+1≠w.heap.size+1+1/\w2.heap.size+1≠w.heap.size+1+1+1:=⟨I,I,I⟩;have nV:w2.heap.size+1+1≠w.heap.size+1/\w2.heap.size+1+1≠w.heap.size+1+1/\w2.heap.size+1+1≠w.heap.size+1+1+1:=⟨I,I,I⟩;have nE:g≠w.heap.size+1/\g≠w.heap.size+1+1/\g≠w.heap.size+1+1+1:=⟨I,I,I⟩;have a9:=((ak.rdI (S:=fun q=>w1.heap.size<=q) a3 (Zp a4)).grow hG3).grow d;have ba:=(rV.grow hG3).grow d;have al:=Zl (Zgn {rows:=(xn:Int),cols:=(xn:Int),cells:=s.2.1} X);have am:=ZhW (A:={rows:=(xn:Int),cols:=(xn:Int),cells:=s.2.1}) (B:=X);have an:=hid al;have ae:=hid am;obtain ⟨Z,hZ⟩:=eX (Zq {rows:=(xn:Int),cols:=(xn:Int),cells:=s.2.1} X);obtain ⟨ok,ao⟩:=eX (ZC {rows:=(xn:Int),cols:=(xn:Int),cells:=s.2.1} X);rw[←hZ] at b4 r4 an ae ip jp;rw[←ao] at ae ⊢;obtain ⟨⟨e0,e1,e2⟩, -⟩:=b4.three;have bw:=b4.lt;clear al am hZ ao v D j bD bU bV b2 vA rU rV ak rX d xp fp hbX hbA;go_wp2;refine Zcr (fun q=>q≠w.heap.size+1/\q≠w.heap.size+1+1/\q≠w.heap.size+1+1+1) [([0,1,2,3,4,5],some 6),([],some 7),([],some 8),([9,10],none)] ?_;refine Zh ?_;obtain ⟨wa,hwa⟩:=eX wz.drew;rw[←hwa];have G:Grow wz wa:=Bz;clear hwa;have rA:=r1.grow G;have rB:=r2.grow G;have rC:=r3.grow G;refine Zu rfl (fun K hK=> ?_);obtain ⟨⟨a0,a1,a2⟩,f0,f1,f2⟩:=rA.three;go_wp2_with fail;have J:Keep (fun q=>q≠w.heap.size+1) wa (((wa.setCell ⟨w.heap.size+1,0,none⟩ (Yv Yi (xn:Int))).setCell ⟨w.heap.size+1,1,none⟩ (Yv Yi (C:Int))).setCell ⟨w.heap.size+1,2,none⟩ (.slice aa (xn*C) ca)):=
     kS
    have aq:=((rA.set 0 (Yv Yi (xn:Int))).set 1 (Yv Yi (C:Int))).set 2 (.slice aa (xn*C) ca);have af:=rB.keep J l.symm;have ar:=rC.keep J p.symm;refine hK _ _ (((G.mono fun _ _ _=>trivial).trans (J.mono fun q _ (hb:q≠w.heap.size+1/\q≠w.heap.size+1+1/\q≠w.heap.size+1+1+1)=>hb.1))) ?_;clear hK K;generalize (((wa.setCell ⟨w.heap.size+1,0,none⟩ (Yv Yi (xn:Int))).setCell ⟨w.heap.size+1,1,none⟩ (Yv Yi (C:Int))).setCell ⟨w.heap.size+1,2,none⟩ (.slice aa (xn*C) ca))=ag at *;clear a0 a1 a2 f0 f1 f2 rA rB rC;refine Zh ?_;refine Zu rfl (fun K hK=> ?_);obtain ⟨⟨b0,b1,b2⟩,g0,g1,g2⟩:=af.three;go_wp2_with fail;have P:Keep (fun q=>q≠w.heap.size+1+1) ag (((ag.setCell ⟨w.heap.size+1+1,0,none⟩ (Yv Yi (xn:Int))).setCell ⟨w.heap.size+1+1,1,none⟩ (Yv Yi (xn:Int))).setCell ⟨w.heap.size+1+1,2,none⟩ (.slice ub (xn*xn) uc)):=
     kS
    have bb:=((af.set 0 (Yv Yi (xn:Int))).set 1 (Yv Yi (xn:Int))).set 2 (.slice ub (xn*xn) uc);have bc:=aq.keep P l;have av:=ar.keep P r.symm;refine hK _ _ ((((G.mono fun _ _ _=>trivial).trans (J.mono fun q _ (hb:q≠w.heap.size+1/\q≠w.heap.size+1+1/\q≠w.heap.size+1+1+1)=>hb.1)).trans (P.mono fun q _ (hb:q≠w.heap.size+1/\q≠w.heap.size+1+1/\q≠w.heap.size+1+1+1)=>hb.2.1))) ?_;clear hK K;generalize (((ag.setCell ⟨w.heap.size+1+1,0,none⟩ (Yv Yi (xn:Int))).setCell ⟨w.heap.size+1+1,1,none⟩ (Yv Yi (xn:Int))).setCell ⟨w.heap.size+1+1,2,none⟩ (.slice ub (xn*xn) uc))=wd at *;clear b0 b1 b2 g0 g1 g2 aq af ar;refine Zh ?_;refine Zu rfl (fun K hK=> ?_);obtain ⟨⟨c0,c1,c2⟩,k0,k1,k2⟩:=av.three;go_wp2_with fail;have E:Keep (fun q=>q≠w.heap.size+1+1+1) wd (((wd.setCell ⟨w.heap.size+1+1+1,0,none⟩ (Yv Yi (C:Int))).setCell ⟨w.heap.size+1+1+1,1,none⟩ (Yv Yi (C:Int))).setCell ⟨w.heap.size+1+1+1,2,none⟩ (.slice vb (C*C) vc)):=
     kS
    have bd:=((av.set 0 (Yv Yi (C:Int))).set 1 (Yv Yi (C:Int))).set 2 (.slice vb (C*C) vc);have be:=bc.keep E p;have bf:=bb.keep E r;have L:=((G.mono fun _ _ _=>trivial).trans (J.mono fun q _ (hb:q≠w.heap.size+1/\q≠w.heap.size+1+1/\q≠w.heap.size+1+1+1)=>hb.1)).trans (P.mono fun q _ (hb:q≠w.heap.size+1/\q≠w.heap.size+1+1/\q≠w.heap.size+1+1+1)=>hb.2.1) |>.trans (E.mono fun q _ (hb:q≠w.heap.size+1/\q≠w.heap.size+1+1/\q≠w.heap.size+1+1+1)=>hb.2.2);refine hK _ _ (L) ?_;clear hK K;refine Zh ?_;refine Ze ?_;have bg:=a8.keep L fun q H=>⟨I,I,I⟩;have ah: ∀ q,w1.heap.size<=q->q≠w.heap.size+1/\q≠w.heap.size+1+1/\q≠w.heap.size+1+1+1:=fun q H=>⟨I,I,I⟩;have bh:=(a9.keep L fun q _ H=>ah q H).weak (T:=fun _=>True) fun _ _ _=>trivial;have bi:=(ba.keep L fun q _ H=>ah q H).weak (T:=fun _=>True) fun _ _ _=>trivial;have bj:=(r4.keep L fun q _ H=>ah q I).weak (T:=fun _=>True) fun _ _ _=>trivial;go_wp2;refine ZgF Zc Zc Zc rfl rfl rfl rfl rfl be bf bd ⟨_,_,_,_,_,_,_,_,_,_,_,_,_,_,_,_,_,_,ok,rfl,fun hk=> ?_,bg⟩;obtain ⟨R',C',e1,e2, -, -,bx,bk⟩:=an.out;obtain ⟨e3,e4⟩:=ae.out hk;rw[HX.out] at e4;have bl:R'=xn:=(by have e5:(R':Int)=(xn:Int):=e1.symm.trans e3;omega);have bm:C'=1:=(by rw[e2] at e4;simp only[Zgk] at e4;omega);subst bl bm;exact ⟨R',C,s.1,s.2.2,Z.cells,Y,ai,hR,hC,rfl,rfl,rfl,rfl,bh,hS.la,hS.na,bi,hS.lv,hS.nv,bj,bk,I⟩
 all_goals
  have F:=f.trans hG3;replace W:=W.trans F;replace v:=v.grow F;replace D:=D.grow F;replace j:=j.grow F;obtain ⟨⟨a0,a1,a2⟩,f0,f1,f2⟩:=v.three;obtain ⟨⟨b0,b1,b2⟩,g0,g1,g2⟩:=D.three;obtain ⟨⟨c0,c1,c2⟩,k0,k1,k2⟩:=j.three;have aw:=v.lt;have ax:=D.lt;have ay:=j.lt;rw[Hw3.out] at a0 a1 a2 f0 f1 f2 b0 b1 b2 g0 g1 g2 c0 c1 c2 k0 k1 k2 aw ax ay;go_wp2;rw[←Hw3.out]
  exact ZgF Zc Zc Zc rfl rfl rfl rfl rfl
   (((((((((v.set 0 _).set 1 _).set 2 _).other l _).other l _).other l _).other p _).other p _).other p _)
   (((((((((D.other l.symm _).other l.symm _).other l.symm _).set 0 _).set 1 _).set 2 _).other r _).other r _).other r _)
   (((((((((j.other p.symm _).other p.symm _).other p.symm _).other r.symm _).other r.symm _).other r.symm _).set 0 _).set 1 _).set 2 _)
   ⟨_,_,_,_,_,_,_,_,_,_,_,_,_,_,_,_,_,_,_,rfl,(fun h=>Ω),((((((((W.setCell h1 _).setCell h1 _).setCell h1 _).setCell h2 _).setCell h2 _).setCell h2 _).setCell h3 _).setCell h3 _).setCell h3 _⟩
theorem Zmm (aa:Option Addr) (na ca D E i:Nat) (L:List Int) (w:World) (h:RdI w S aa na ca L) (hl:L.length=D*E) (hn:NumL L) (hD:D<=24) (hE:E<=24):
  Calls JG 109 #[.agg #[Yv Yi D,Yv Yi E, .slice aa na ca],Yv Yi i] w fun e w'=> ∃ x:Int,e= .returned (Yv Yi x)/\(-400000000<=x/\x<=400000000)/\(x≠0->i<D)/\Grow w w':=by
 by_cases b:i<D
 ·refine (ZjQ aa na ca D E i L w h hl hD hE b).mono ?_;rintro e w' ⟨rfl,d⟩;exact ⟨_,rfl,ZpC hn E i,fun _=>b,d⟩
 ·have a:=(JH w).alloc #[Yv Yi (D:Int),Yv Yi (E:Int), .slice aa na ca] 37;have c:=Blk.new w #[Yv Yi (D:Int),Yv Yi (E:Int), .slice aa na ca] 37;obtain ⟨⟨g,j,k⟩, -⟩:=c.three;have f:=c.lt;have l:D<=i:=I
  go_enter Oz,O0;go_wp2;go_ret;exact ⟨0,rfl,I,fun e=>(e rfl).elim,a⟩
theorem ZnX (aa ba:Option Addr) (na ca D E bn bc:Nat) (L bs:List Int) (w:World) (h:RdI w S aa na ca L) (hl:L.length=D*E) (hn:NumL L) (hD:D<=24) (hE:E<=24) (hb:RdI w T ba bn bc bs) (hbn:bn<=1000):
  Calls JG 119 #[.agg #[Yv Yi D,Yv Yi E, .slice aa na ca], .slice ba bn bc] w fun e w'=> ∃ k:Int,e= .returned (Yv Yi k)/\Grow w w':=by
 obtain ⟨m,f,a,n, -⟩:=al1 w #[Yv Yi (D:Int),Yv Yi (E:Int), .slice aa na ca] 37;have g:=hid f;clear f;go_enter func119,ntmps119;go_wp2;rw[←g.out];go_loopw [8] (fun i wr=>Grow m wr/\ ∃ k:Nat,k<=bn/\i=Yv Yi k) (fun i _=>bn-(intOf i).toNat);case atStart=>exact ⟨JH _,0,Nat.zero_le _,rfl⟩
 case round=>
  obtain ⟨d,k,v,rfl⟩:=hrel;by_cases j:k<bn
  ·obtain ⟨z,o,x,rfl,p,q,_,r,A⟩:=(hb.grow (a.trans d)).at j;have s:=n.grow d;have t:=(h.grow a).grow d;clear p hb;go_wp2;refine ZaH [([0,1,2,3,4,5],some 6),([],some 7),([8],none)] ?_;refine ZR ?_;intro K hK;refine (Zmm aa na ca D E k L _ (t.grow (JH wr).drew) hl hn hD hE).mono ?_;rintro e B ⟨y,rfl, -, -,l⟩;have c:=(JH wr).drew.trans l;go_wp2_with fail;refine hK _ _ (c) ?_;clear hK K;refine ZR ?_;intro K hK;refine (ZoF x y _).mono ?_;rintro e _ ⟨b,rfl,rfl⟩;go_wp2_with fail;refine hK _ _ (c) ?_;clear hK K;refine Zh ?_;refine Ze ?_;cases b with
   |true=>
    go_wp2;go_roundw;case rel=>exact ⟨d.trans c,k+1,I,Δ⟩
    case measure=>exact FN
   |false=>go_wp2;go_ret;exact ⟨_,rfl,a.trans (d.trans c)⟩
  ·go_wp2;go_ret;exact ⟨_,rfl,a.trans d⟩

end Go.Proofs.YtgjefeiddfjjnaaGreatDoor
