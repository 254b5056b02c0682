/- Symmetric matrices by their cells, and a step of a reduction as the reference takes it: plain. -/
import Derived.Test.YtgjefeiddfjjnaaGreatDoorZAddM
set_option maxHeartbeats 8000000
set_option maxRecDepth 100000
namespace Go.Proofs.YtgjefeiddfjjnaaGreatDoor
open Go.RowKit
open Lib (hid)
open Go.Value renaming int->Yv
open Go.IntKind renaming i64->Yi
open Grow renaming refl->JH
open List renaming all_append->Mw,all_eq_true->Kn,foldl_cons->Og,foldl_nil->O5,getElem?_eq_getElem->JR,getElem_take->QL,map_append->K0,map_cons->JV,mem_cons->JU,mem_map->Kc,mem_of_getElem?->JX,mem_range->JW,not_mem_nil->Kl,range->JN,range_succ->KV,replicate->Ko
open Nat renaming le_refl->JM,le_trans->K6,mul_le_mul_right->K9,zero_le->JI
open Go.Proofs.Tryz renaming func252->QO,func258->QM,ntmps252->QP,ntmps258->QN,prog->JG
open Go.Proofs.Tryz
variable {C N i j k n r:Nat} {S:Nat->Prop} {cs rs:List Nat} {m:Mat} {t:Int} {v:Value} {w:World}
theorem Zn2 {m:List Int} {C R i:Nat} (hi:i<R): ∀ {j:Nat} {x:List Int},j<=C->x.length=C*R-> ∀ j' i',i'<R->cell (ZcS m C R i j x) R j' i'=if i'=i/\j'<j then cell m C i j' else cell x R j' i'
 |0,x,_,_,j',i',_=>by rw[if_neg I];rfl
 |j+1,x,hj,hl,j',i',hi'=>by
  have hp:=Zf (C:=R) (R:=C) hi (show j<C by omega);have ih:=Zn2 (m:=m) hi (j:=j) I hl j' i' hi';unfold cell at ih ⊢;simp only[ZcS];rw[Zes (by rw[Ziz];omega)];by_cases e:j'*R+i'=j*R+i
  ·obtain ⟨rfl,rfl⟩:=Zb5 hi' hi e;rw[if_pos rfl,if_pos ⟨rfl,I⟩];rfl
  ·rw[if_neg e,ih];have:(i'=i/\j'<j+1)↔(i'=i/\j'<j):=by
    constructor
    ·rintro ⟨h1,h2⟩;refine ⟨h1, ?_⟩;have:j'≠j:=fun e2=>e (by rw[h1,e2]);omega
    ·rintro ⟨h1,h2⟩;exact ⟨h1,I⟩
   simp only[this]
theorem Zka {m:List Int} {C R:Nat}: ∀ {n:Nat},n<=R-> ∀ j i,i<n->j<C->cell (ZaZ m C R n) R j i=cell m C i j
 |0,_,_,i,h,_=>I
 |n+1,hn,j,i,h,hj=>by
  simp only[ZaZ];rw[Zn2 I (JM _) (ZgL _ _ _ _) j i I];by_cases e:i=n
  ·rw[if_pos ⟨e,hj⟩,e]
  ·rw[if_neg I];exact Zka I j i I hj
def ZfL (g:List Int) (n i:Nat):Bool:=(JN i).all fun r=>(JN r).all fun j=>cell g n r j==cell g n j r
def ZhA (g:List Int) (n i j:Nat):Bool:=(JN j).all fun c=>cell g n i c==cell g n c i
theorem Zsy (g:List Int) (n i:Nat):ZfL g n (i+1)=(ZfL g n i&&ZhA g n i i):=by unfold ZfL ZhA;rw[KV,Mw];simp
theorem ZrC (g:List Int) (n i j:Nat):ZhA g n i (j+1)=(ZhA g n i j&&cell g n i j==cell g n j i):=by unfold ZhA;rw[KV,Mw];simp
theorem ZuH {g:List Int} (hi:i<n) (hj:j<i) (h:cell g n i j≠cell g n j i):ZfL g n n=false:=by
 rw[Bool.eq_false_iff];intro e;unfold ZfL at e;rw[Kn] at e;have a:=e i (JW.2 hi);rw[Kn] at a;have h2:=a j (JW.2 hj);exact h Cd
theorem ZtU (hr:m.rows=(N:Int)) (hc:m.cols=(N:Int)) (hl:m.cells.length=N*N):Zc2 (Zbz m) m=ZfL m.cells N N:=by
 obtain ⟨g,k,cells⟩:=m;simp only at hr hc hl;subst hr;subst hc;rw[ZhI];have e:Zc2 {rows:=(N:Int),cols:=(N:Int),cells:=ZaZ cells N N N} {rows:=(N:Int),cols:=(N:Int),cells:=cells}=Zlb (ZaZ cells N N N) cells:=by unfold Zc2;simp
 rw[e,Bool.eq_iff_iff];unfold Zlb;rw[decide_eq_true_eq];constructor
 ·intro h;unfold ZfL;rw[Kn];intro r hr;have hr:=JW.1 hr;rw[Kn];intro j c;have c:=JW.1 c;have a:=Zka (m:=cells) (C:=N) (R:=N) (JM _) j r hr I;rw[h] at a;simp[a]
 ·intro h;refine Zbj (ZgL _ _ _ _) hl fun i j d c=> ?_;rw[Zka (JM _) i j c d];unfold ZfL at h;rw[Kn] at h;rcases Nat.lt_trichotomy i j with b|rfl|b
  ·have a:=h j (JW.2 c);rw[Kn] at a;simpa using a i (JW.2 b)
  ·rfl
  ·have a:=h i (JW.2 d);rw[Kn] at a;have h2:=a j (JW.2 b);have f:cell cells N i j=cell cells N j i:=Cd;exact f.symm
theorem Zv0 (h:ZZ m=true) (hr:m.rows=(N:Int)) (hc:m.cols=(N:Int)) (hl:m.cells.length=N*N):Za7 m=ZfL m.cells N N:=by
 unfold Za7;rw[h,Bool.true_and,ZtU hr hc hl]
def ZhE (n k j:Nat) (t:Int) (s:HS):HS:=(ZcK (Za3 s.1 n k j t) n n k j t,Za3 s.2 n k j t)
theorem ZtZ {s:HS} (h:Hm n n s):Hm n n (ZhE n k j t s):=⟨ZcV _ _ _ _ _ _,by show (Za3 s.2 n k j t).length=_;rw[ZdD];exact h.lu,Zio (Zd8 h.na),Zd8 h.nu⟩
theorem Zo4 {S:SS} (h:Ss n n S) (hT:Trp n S) (hk:k<n) (hj:j<n) (hkj:k≠j) (ht: -400000000<=t/\t<=400000000):
  (∃ S',Zcb n k j t S=some S'/\(S'.1,S'.2.1)=ZhE n k j t (S.1,S.2.1)/\Ss n n S'/\Trp n S')\/(Zcb n k j t S=none/\(ZS∈(ZhE n k j t (S.1,S.2.1)).1\/ZS∈(ZhE n k j t (S.1,S.2.1)).2)):=by
 rcases Zgh h hk ht with a|⟨a,b⟩
 ·have c:=Zdv h a;have g:Zae S.2.1 n k j t=true:=by
   unfold ZaP at a;split at a
   ·rename_i l;rw[Bool.and_eq_true] at l;exact l.2
   ·cases a
  have i:=Zv1 hT hk hj g;have d:Zcb n k j t S=Zbn n n k j t (Zb7 n n k j t S):=by unfold Zcb;rw[a];rfl
  have m:(Zb7 n n k j t S).2.2=S.2.2:=rfl;have e:(Zb7 n n k j t S).1=Za3 S.1 n k j t:=rfl;cases f:Zbv (Za3 S.1 n k j t) n n k j t with
  |true=>have o:Zbn n n k j t (Zb7 n n k j t S)=some (Zd4 (Za3 S.1 n k j t) n n k j t,Za3 S.2.1 n k j t,Zd4 S.2.2 n n k j t):=(by unfold Zbn;rw[m,e,f,i];rfl);rw[o] at d;refine .inl ⟨_,d, ?_,ZnQ h d,Zvn h hT hk hj hkj d⟩;unfold ZhE;rw[ZiS (by have:=c.1.na;rwa [e] at this) ht f]
  |false=>
   refine .inr ⟨?_, .inl ?_⟩
   ·rw[d];unfold Zbn;rw[m,e,f];rfl
   ·exact Zi5 hk (by have:=c.1.na;rwa [e] at this) ht f
 ·refine .inr ⟨by unfold Zcb;rw[a];rfl, ?_⟩;rcases b with b|b|b
  ·exact .inl (ZgU (by rw[ZdD];exact h.la) b)
  ·exact .inr b
  ·exact absurd rfl (Zaz (h.nv _ b))
theorem ZsQ (hi:i<n) (hj:j<n):cell (idL n) n i j=if i=j then 1 else 0:=by
 have b: ∀ (k:Nat),k<=n->((JN k).foldl (fun l i=>l.set (i*n+i) 1) (Ko (n*n) (0:Int))).length=n*n/\ ∀ i j,i<n->j<n->((JN k).foldl (fun l i=>l.set (i*n+i) 1) (Ko (n*n) (0:Int))).getD (i*n+j) 0=if i=j/\i<k then 1 else 0:=by
  intro k;induction k with
  |zero=>intro _;refine ⟨Θ,fun i j hi hj=> ?_⟩;rw[if_neg I];simp only[List.range_zero,O5,List.getD_eq_getElem?_getD,List.getElem?_replicate];split<;>rfl
  |succ k d=>
   intro o;obtain ⟨c,f⟩:=d I;rw[KV,List.foldl_append];refine ⟨by simp only[Og,O5,List.length_set];exact c,fun i j hi hj=> ?_⟩;simp only[Og,O5];rw[Zes (by rw[c];exact Zf I I),f i j hi hj];by_cases e:i*n+j=k*n+k
   ·obtain ⟨rfl,rfl⟩:=Zb5 hj I e;rw[if_pos rfl,if_pos ⟨rfl,I⟩]
   ·rw[if_neg e];have:(i=j/\i<k+1)↔(i=j/\i<k):=by
     constructor
     ·rintro ⟨a,g⟩;refine ⟨a, ?_⟩;have:i≠k:=fun m=>e (by subst m;subst a;rfl);omega
     ·rintro ⟨a,g⟩;exact ⟨a,I⟩
    simp only[this]
 have:=(b n (JM _)).2 i j hi hj;unfold cell idL;rw[this];by_cases e:i=j
 ·rw[if_pos ⟨e,hi⟩,if_pos e]
 ·rw[if_neg (fun h=>e h.1),if_neg e]
theorem Zrz (n:Nat) (g:List Int):Trp n (g,idL n,idL n):=fun i j a b=>by
 show cell (idL n) n i j=cell (idL n) n j i;rw[ZsQ a b,ZsQ b a];by_cases e:i=j
 ·rw[if_pos e,if_pos e.symm]
 ·rw[if_neg e,if_neg (Ne.symm e)]
theorem Zuh (h:VM w S v m) (hb:bdM m<=1048576):
  Calls JG 88 #[v] w fun e w'=> ∃ r,e= .returned (.tuple #[r, .bool (Zd m)])/\OM w' (New w w') r (trB m)/\Grow w w':=by
 have J:=h;obtain ⟨a,n,c,rfl,h,X,Y⟩:=h;obtain ⟨w1,l,o,Z,bZ, -⟩:=al2 w #[Yv Yi m.rows,Yv Yi m.cols, .slice a n c] 37 #[Yv Yi 0,Yv Yi 0, .slice none 0 0] 37;have A:=hid l;clear l h X Y;go_enter func88,ntmps88;go_wp2_with fail;rw[←A.out];refine (ZL (J.grow o) I).mono ?_;rintro e w2 ⟨rfl,d⟩;have y:=o.trans d;have aa:=y.size;have s:=Z.grow d;have b:=bZ.grow d;have j:w.heap.size<=w.heap.size+1:=I
 obtain ⟨⟨m0,m1,m2⟩, -⟩:=s.three;obtain ⟨⟨L,M,N⟩,O,R,T⟩:=b.three;have t:=s.lt;have V:=b.lt;cases k:Zd m with
 |false=>have He:=hid (show trB m={rows:=0,cols:=0,cells:=[]} by unfold trB;rw[k];rfl);have z:=hid k;clear k;go_wp2;exact Zb Zc rfl rfl rfl (((b.set 0 _).set 1 _).set 2 _) ⟨_,by rw[z.out];rfl,BD,((y.setCell j _).setCell j _).setCell j _⟩
 |true=>
  have He:=hid (show trB m=Zbz m by unfold trB;rw[k];rfl);have z:=hid k;clear k;go_wp2_with fail;refine (Zpv (J.grow y) z.out).mono ?_;rintro e W ⟨rv,rfl,⟨B,C,D,rfl,oP,rP,fP,j1,j2⟩,f⟩;have ab:=f.size;have i:=b.grow f;clear m0 m1 m2 t L M N O R T;obtain ⟨⟨L,M,N⟩,O,R,T⟩:=i.three;have E:=i.lt;have F:=y.trans f;generalize Zbz m=P at *;have G:Keep (fun q=>q≠w.heap.size+1) W (((W.setCell ⟨w.heap.size+1,0,none⟩ (Yv Yi P.rows)).setCell ⟨w.heap.size+1,1,none⟩ (Yv Yi P.cols)).setCell ⟨w.heap.size+1,2,none⟩ (.slice B C D)):=
   kS
  have x:=oP.keep G fun g hg _ e=>BU
  have H:=((F.setCell (p:=⟨w.heap.size+1,0,none⟩) j (Yv Yi P.rows)).setCell (p:=⟨w.heap.size+1,1,none⟩) j (Yv Yi P.cols)).setCell (p:=⟨w.heap.size+1,2,none⟩) j (.slice B C D);go_wp2;exact Zb Zc rfl rfl rfl (((i.set 0 _).set 1 _).set 2 _) ⟨_,by rw[z.out];rfl,by rw[He.out];exact ⟨B,C,D,rfl,x,rP,fun g hg=>⟨BU,x.lt hg⟩,j1,j2⟩,H⟩
def GrPost (z:Nat) (T M P:Mat) (ok:Bool):Nat->Value->World->Prop
 |2,v,w=>OM w (fun g=>z<=g) v T
 |3,v,w=>OM w (fun g=>z<=g) v M
 |4,v,w=> ∃ r,v= .tuple #[r, .bool ok]/\OM w (fun g=>z<=g) r P
 |5,v,w=> ∃ r,v= .tuple #[r, .bool ok]/\OM w (fun g=>z<=g) r P
 |6,v,w=>OM w (fun g=>z<=g) v P
 |7,v,_=>v= .bool ok
 |8,v,w=> ∃ g,v= .pointer (some ⟨g,0,none⟩)/\z<=g/\Blk w g #[Yv Yi 0,Yv Yi 0, .slice none 0 0] 37
 |_,_,_=>True
theorem GrPost.stays {z:Nat} {T M P:Mat} {ok:Bool}: ∀ i v w w',Grow w w'->GrPost z T M P ok i v w->GrPost z T M P ok i v w':=fun i v w w' hG h=>by
 unfold GrPost at *;split at h
 ·exact h.grow hG
 ·exact h.grow hG
 ·exact GJ
 ·exact GJ
 ·exact h.grow hG
 ·exact h
 ·exact Gy
 ·trivial
theorem Zmd (h:VM w S v m) (hb:bdM m<=1048576):
  Calls JG 93 #[v] w fun e w'=> ∃ r,e= .returned (.tuple #[r, .bool (ZaO m)])/\OM w' (New w w') r (ZaD m)/\Grow w w':=by
 have hV:=h;obtain ⟨a,n,c,rfl,h,ir,ic⟩:=h;obtain ⟨w1,W,X,bM,bZ, -⟩:=al2 w #[Yv Yi m.rows,Yv Yi m.cols, .slice a n c] 37 #[Yv Yi 0,Yv Yi 0, .slice none 0 0] 37;have ae:=hid W;clear W h ir ic;go_enter func93,ntmps93;go_wp2_with fail;rw[←ae.out];refine (ZL (hV.grow X) I).mono ?_;rintro e l ⟨rfl,D⟩;have hG:=X.trans D;have av:=hG.size;have Y:=bM.grow D;have j:=bZ.grow D;have R:w.heap.size<=w.heap.size+1:=I
 obtain ⟨⟨m0,m1,m2⟩, -⟩:=Y.three;obtain ⟨⟨z0,z1,z2⟩,f0,f1,f2⟩:=j.three;have Z:=Y.lt;have A:=j.lt;cases E:Zd m with
 |false=>have Hr:=hid (show ZaO m=false/\ZaD m={rows:=0,cols:=0,cells:=[]} by unfold ZaO ZaD;rw[E];exact ⟨rfl,rfl⟩);clear E;go_wp2;exact Zb Zc rfl rfl rfl (((j.set 0 _).set 1 _).set 2 _) ⟨_,Cj,BA,((hG.setCell R _).setCell R _).setCell R _⟩
 |true=>
  have hF:Zaj m (Zbz m)=true:=by unfold Zaj;rw[E,Zmh E];simp[Zbz]
  have Hr:=hid (show ZaO m=Zd (ZbN m (Zbz m))/\ZaD m=okM (ZbN m (Zbz m)) by
   unfold ZaO ZaD ZC Zq;rw[E,hF];exact ⟨rfl,rfl⟩)
  have HF:=hid hF;have HB:=hid E;have vM:=hV.grow hG;have af:=Zjd hF;clear E hF z0 z1 z2 f0 f1 f2 A;obtain ⟨T,hT⟩:=eX (Zbz m);obtain ⟨M,hM⟩:=eX (ZbN m (Zbz m));obtain ⟨P,B⟩:=eX (okM M);obtain ⟨V,F⟩:=eX (Zd M);rw[←hM, ←F, ←B] at Hr;rw[←hM] at af;have HT:=hid hT;have HM:=hid (show ZbN m T=M by rw[hT,hM]);have HP:=hid B;have ag:=hid F;have ah:=hid (show Zaj m T=true by rw[hT];exact HF.out);have vA:VM l S (.agg #[Yv Yi m.rows,Yv Yi m.cols, .slice a n c]) m:=vM;clear hT hM B F HF vM;go_wp2;refine Zai (S:=Grow l) (T:=fun _=>True) [0,1] [2,3,4,8] [5,6,7] [([],some 9),([10],none)] ZaB Ξ (fun _ _ _ _ _ h=>h) (JH _).drew ?_;refine Zh ?_;refine ⟨Ξ,GrPost l.heap.size T M P V,fun _ _=>none,GrPost.stays,(fun _ _ _ _ _ h=>Ω),(fun _ _ _=>rfl), ?_, ?_, ?_⟩
  ·intro i hi o ho s wq aa hSw f G K hK;have ai:s.tmps.getD 11 undef= .agg #[Yv Yi m.rows,Yv Yi m.cols, .slice a n c]:=G 11 Φ;have aj:s.tmps.getD 12 undef= .agg #[Yv Yi m.rows,Yv Yi m.cols, .slice a n c]:=G 12 Φ;have hsq:=hSw.size;simp only[JU,Kl,or_false] at hi;rcases hi with rfl|rfl|rfl|rfl
   ·obtain rfl:=oI ho;refine Zdx (x:= .tmp 12) rfl func141 rfl rfl aj ?_;refine (Zpv (vA.grow hSw) HB.out).mono ?_;rintro e C ⟨r,rfl,k,d⟩;exact ⟨r,rfl,hK r C d (hSw.trans d) (by rw[←HT.out] at k;exact k.weak fun b _ hb=>K6 hsq hb.1) (fun _ h=>Ω)⟩
   ·obtain rfl:=oI ho;have d1:OM wq (fun g=>l.heap.size<=g) (s.tmps.getD 13 undef) T:=f 2 Φ ⟨⟨2, .data⟩,Θ,rfl,rfl⟩ 13 rfl;refine Zbr (x:= .tmp 11) (y:= .tmp 13) rfl func140 rfl rfl ai rfl ?_;refine (ZpV (vA.grow hSw) (d1.rd (S:=fun _=>True) fun _ _=>trivial) ah.out).mono ?_;rintro e C ⟨r,rfl,k,d⟩;exact ⟨r,rfl,hK r C d (hSw.trans d) (by rw[HM.out] at k;exact k.weak fun b _ hb=>K6 hsq hb.1) (fun _ h=>Ω)⟩
   ·obtain rfl:=oI ho;have d1:OM wq (fun g=>l.heap.size<=g) (s.tmps.getD 14 undef) M:=f 3 Φ ⟨⟨3, .data⟩,Θ,rfl,rfl⟩ 14 rfl;refine Zdx (x:= .tmp 14) rfl func139 rfl rfl rfl ?_;refine (Zkc d1 I).mono ?_;rintro e C ⟨r,rfl,k,d⟩;exact ⟨_,rfl,hK _ C d (hSw.trans d) ⟨r,by rw[ag.out],by rw[←HP.out] at k;exact k⟩ (fun _ h=>Ω)⟩
   ·exact H7
  ·intro i hi o ho s wq aa hSw f G;simp only[JU,Kl,or_false] at hi;rcases hi with rfl|rfl|rfl
   ·obtain rfl:=oI ho;have d3: ∃ r,s.tmps.getD 15 undef= .tuple #[r, .bool V]/\OM wq (fun g=>l.heap.size<=g) r P:=f 4 Φ ⟨⟨4, .data⟩,Θ,rfl,rfl⟩ 15 rfl;exact ⟨s.tmps.getD 15 undef,fun _ _=>rfl,d3⟩
   ·obtain rfl:=oI ho;obtain ⟨r,e4,k⟩: ∃ r,s.tmps.getD 10 undef= .tuple #[r, .bool V]/\OM wq (fun g=>l.heap.size<=g) r P:=f 5 Φ ⟨⟨5, .data⟩,Θ,rfl,rfl⟩ 10 rfl;exact ⟨r,fun w' _=>ZP (x:= .tmp 10) rfl e4 rfl w',k⟩
   ·obtain rfl:=oI ho;obtain ⟨r,e4,k⟩: ∃ r,s.tmps.getD 10 undef= .tuple #[r, .bool V]/\OM wq (fun g=>l.heap.size<=g) r P:=f 5 Φ ⟨⟨5, .data⟩,Θ,rfl,rfl⟩ 10 rfl;exact ⟨.bool V,fun w' _=>ZP (x:= .tmp 10) rfl e4 rfl w',rfl⟩
  ·intro vs wq aa hSw B _;apply ZbU
   ·show _=([some 13,some 14,some 15,some 4,some 10,some 16,some 17]:List (Option Tmp))
    kernel_rfl
   simp only[Zdm,List.cons_append,List.nil_append,JV,List.map_nil,List.zip_cons_cons,List.zip_nil_right,Act.put,List.setIfInBounds_toArray,List.set_cons_succ,List.set_cons_zero];refine ⟨?_⟩;have p6:OM wq (fun g=>l.heap.size<=g) (vs 6) P:=B 6 Φ;have p7:vs 7= .bool V:=B 7 Φ;obtain ⟨g,p8,aw,t⟩: ∃ g,vs 8= .pointer (some ⟨g,0,none⟩)/\l.heap.size<=g/\Blk wq g #[Yv Yi 0,Yv Yi 0, .slice none 0 0] 37:=B 8 Φ;obtain ⟨H,J,L,e5,op,xp,fp,ip,jp⟩:=p6;have ak:=op.ne_blk t Φ;rw[e5,p7,p8];clear e5 p7 p8 B;show wpQuiet _ _ _ _ [] _;apply wpQuiet_nil;apply Zu rfl;intro K hK;obtain ⟨⟨z0,z1,z2⟩,g0,g1,g2⟩:=t.three;go_wp2_with fail;have N:Keep (fun q=>q≠g) wq (((wq.setCell ⟨g,0,none⟩ (Yv Yi P.rows)).setCell ⟨g,1,none⟩ (Yv Yi P.cols)).setCell ⟨g,2,none⟩ (.slice H J L)):=
    kS
   have ab:Blk (((wq.setCell ⟨g,0,none⟩ (Yv Yi P.rows)).setCell ⟨g,1,none⟩ (Yv Yi P.cols)).setCell ⟨g,2,none⟩ (.slice H J L)) g #[Yv Yi P.rows,Yv Yi P.cols, .slice H J L] 37:=((t.set 0 _).set 1 _).set 2 _;have d:=hSw.keep N fun q hq=>I;have al:=op.keep N fun q hq _ e=>ak (e▸hq);refine hK _ _ d ?_;clear hK K;generalize am:(((wq.setCell ⟨g,0,none⟩ (Yv Yi P.rows)).setCell ⟨g,1,none⟩ (Yv Yi P.cols)).setCell ⟨g,2,none⟩ (.slice H J L))=C at *;clear am N z0 z1 z2 g0 g1 g2 t op m0 m1 m2 Z;refine Zh ?_;refine Ze ?_;have O:=j.grow d;have an:=hG.trans d;have ax:=j.lt;obtain ⟨⟨z0,z1,z2⟩,f0,f1,f2⟩:=O.three;obtain ⟨⟨y0,y1,y2⟩, -⟩:=ab.three;have ar:=ab.lt;have A:=O.lt;have ao:Keep (fun q=>q≠w.heap.size+1) C (((C.setCell ⟨w.heap.size+1,0,none⟩ (Yv Yi P.rows)).setCell ⟨w.heap.size+1,1,none⟩ (Yv Yi P.cols)).setCell ⟨w.heap.size+1,2,none⟩ (.slice H J L)):=
    kS
   have ad:=al.keep ao fun g hg _ e=>(by have:=fp g hg;omega);have aq:=((an.setCell (p:=⟨w.heap.size+1,0,none⟩) R (Yv Yi P.rows)).setCell (p:=⟨w.heap.size+1,1,none⟩) R (Yv Yi P.cols)).setCell (p:=⟨w.heap.size+1,2,none⟩) R (.slice H J L);go_wp2;exact Zb Zc rfl rfl rfl (((O.set 0 _).set 1 _).set 2 _) ⟨_,Cj,by rw[Hr.out.2];exact ⟨H,J,L,rfl,ad,xp,fun g hg=>⟨by have:=fp g hg;omega,ad.lt hg⟩,ip,jp⟩,aq⟩
def ZeR (l:List Nat):List Int:=List.map (fun (x:Nat)=>(Nat.cast x:Int)) l
theorem Zpj {l:List Nat} {x:Nat} (h:l[i]? =some x):(ZeR l)[i]? =some (x:Int):=by
 unfold ZeR;rw[List.getElem?_map,h];rfl
def Zcl (m:List Int) (C:Nat) (cs:List Nat) (r j:Nat):List Int:=(cs.take j).map fun c=>cell m C r c
def ZaN (m:List Int) (C:Nat) (rs cs:List Nat) (i:Nat):List Int:=((rs.take i).map fun r=>cs.map fun c=>cell m C r c).flatten
theorem Zqd {m:List Int} {c:Nat} (h:cs[j]? =some c):Zcl m C cs r (j+1)=Zcl m C cs r j++[cell m C r c]:=by
 unfold Zcl;rw[ZH h,K0];rfl
theorem Zsl (m:List Int) (C r j:Nat) (cs:List Nat):(Zcl m C cs r j).length<=j:=by unfold Zcl;simp;omega
theorem Zqj {m:List Int} {q:Nat} (h:rs[i]? =some r) (hq:cs.length=q):ZaN m C rs cs (i+1)=ZaN m C rs cs i++Zcl m C cs r q:=by
 unfold ZaN Zcl;rw[ZH h,K0,List.flatten_append, ←hq,List.take_length];simp
theorem Zrl (m:List Int) (C:Nat) (rs cs:List Nat): ∀ i,(ZaN m C rs cs i).length<=i*cs.length:=fun i=>by
 unfold ZaN;rw[List.length_flatten,List.map_map];have: ∀ l:List Nat,(l.map (List.length∘fun r=>cs.map fun c=>cell m C r c)).sum=l.length*cs.length:=by
  intro l;induction l with
  |nil=>simp
  |cons x l a=>rw[JV,List.sum_cons,a];simp[Nat.add_mul];omega
 rw[this];exact K9 _ Ψ
theorem Zsw {m:List Int} (hm:NumL m):NumL (ZaN m C rs cs i):=fun x a=>by
 unfold ZaN at a;rw[List.mem_flatten] at a;obtain ⟨l,b,a⟩:=a;obtain ⟨r, -,rfl⟩:=Kc.1 b;obtain ⟨c, -,rfl⟩:=Kc.1 a;exact Zk hm C r c
theorem Zvg {T U:Nat->Prop} (a ra ca:Option Addr) (n cp R C p q rc cc:Nat) (m:List Int) (rs cs:List Nat) (w:World) (h:RdI w S a n cp m) (hl:m.length=R*C) (hR:R<=24) (hC:C<=24) (hm:NumL m)
  (hr:RdI w T ra p rc (ZeR rs)) (hc:RdI w U ca q cc (ZeR cs)) (hp:rs.length=p) (hq:cs.length=q) (hp24:p<=24) (hq24:q<=24) (hrs: ∀ x∈rs,x<R) (hcs: ∀ x∈cs,x<C):
  Calls JG 308 #[.agg #[Yv Yi R,Yv Yi C, .slice a n cp], .slice ra p rc, .slice ca q cc] w fun e w'=> ∃ r,e= .returned r/\OM w' (New w w') r {rows:=(p:Int),cols:=(q:Int),cells:=ZaN m C rs cs p}/\Grow w w':=by
 have hln:=h.len;obtain ⟨D,V,s,bM,bZ,d, -⟩:=al3 w #[Yv Yi R,Yv Yi C, .slice a n cp] 37 #[Yv Yi 0,Yv Yi 0, .slice none 0 0] 37 #[Yv Yi (p:Int),Yv Yi (q:Int), .slice none 0 0] 37;have hE:Own D 3 1 none 0 0 []:=Own.nilw;have ao:RdI D (fun b=>b<w.heap.size) a n cp m:=(h.weak (T:=fun b=>b<w.heap.size) (fun b z _=>z)).grow s;have ap:RdI D (fun b=>b<w.heap.size) ra p rc (ZeR rs):=(hr.weak (T:=fun b=>b<w.heap.size) (fun b z _=>z)).grow s;have aq:RdI D (fun b=>b<w.heap.size) ca q cc (ZeR cs):=(hc.weak (T:=fun b=>b<w.heap.size) (fun b z _=>z)).grow s;have HP:=hid hp;have HQ:=hid hq;have ar:=hid hrs;have av:=hid hcs;have W: ∀ i,i<=p->(ZaN m C rs cs i).length<=576:=fun i hi=>by have:=Zrl m C rs cs i;rw[hq] at this;have:=Nat.mul_le_mul hi (show q<=24 from hq24);have:p*24<=24*24:=K9 _ hp24;omega
 have aw:=hid W;have bl:=hid (show ZaN m C rs cs 0=[] from rfl);clear hp hq hrs hcs W h hr hc;go_enter func308,ntmps308;go_wp2_with fail;rw[←V];clear V;go_loopw [8] (fun iv wr=>Keep (fun q=>q<=w.heap.size+1) D wr/\ ∃ (i l:Nat) (f:Option Addr),i<=p/\iv=Yv Yi i/\Blk wr (w.heap.size+1+1) #[Yv Yi (p:Int),Yv Yi (q:Int), .slice f (ZaN m C rs cs i).length l] 37/\Own wr 3 1 f (ZaN m C rs cs i).length l (ints (ZaN m C rs cs i))/\ ∀ g,blk f=some g->w.heap.size+2<=g/\g≠w.heap.size+1+1) (fun i _=>p-(intOf i).toNat);case atStart=>exact ⟨Keep.refl _ _,0,0,none,JI _,rfl,d,hE,fun g hg=>Ci⟩
 case round=>
  clear d hE;obtain ⟨t,i,l,f,hi,rfl,d,o,hlo⟩:=hrel;by_cases X:i<p
  ·obtain ⟨r,v⟩: ∃ r,rs[i]? =some r:=⟨_,JR (by rw[HP.out];exact X)⟩;have ax:=ar.out r (JX v);have ay:=hid (Zqj (m:=m) (C:=C) (cs:=cs) v HQ.out);have az:=hid (Zpj v);clear v;go_wp2;obtain ⟨wo,rfl⟩:=eX wr;go_loopw [9] (fun jv wr=>Keep (fun q=>q<=w.heap.size+1) D wr/\ ∃ (j l:Nat) (f:Option Addr),j<=q/\jv=Yv Yi j/\Blk wr (w.heap.size+1+1) #[Yv Yi (p:Int),Yv Yi (q:Int), .slice f (ZaN m C rs cs i++Zcl m C cs r j).length l] 37/\Own wr 3 1 f (ZaN m C rs cs i++Zcl m C cs r j).length l (ints (ZaN m C rs cs i++Zcl m C cs r j))/\ ∀ g,blk f=some g->w.heap.size+2<=g/\g≠w.heap.size+1+1) (fun j _=>q-(intOf j).toNat);case atStart=>exact ⟨t,0,l,f,JI _,rfl,by simpa [Zcl] using d,by simpa [Zcl] using o,hlo⟩
   case round=>
    clear t d o hlo;obtain ⟨k,j,c3,E,hj,rfl,d,o,hlo⟩:=hrel;by_cases A:j<q
    ·have Y:=bM.keep k I;have Z:=ap.keep k (fun b _ z=>I);have aa:=aq.keep k (fun b _ z=>I);have a0:RdI wr (fun b=>b<w.heap.size) a n cp m:=ao.keep k (fun b _ z=>I);obtain ⟨c,y⟩: ∃ c,cs[j]? =some c:=⟨_,JR (by rw[HQ.out];exact A)⟩;have a1:=av.out c (JX y);have HX:=hid (show ZaN m C rs cs i++Zcl m C cs r (j+1)=(ZaN m C rs cs i++Zcl m C cs r j)++[cell m C r c] by rw[Zqd y,List.append_assoc]);obtain ⟨xb,xo,xx,a5,F, -,bm,bn,bo⟩:=Z.at X;obtain ⟨yb,yo,yy,a6,G, -,bp,bq,br⟩:=aa.at A;rw[az.out] at F;rw[Zpj y] at G;obtain rfl:=Option.some.inj F;obtain rfl:=Option.some.inj G;subst a5;subst a6;have bs:(ZaN m C rs cs i++Zcl m C cs r j).length<=1000:=(by have h1:=aw.out i hi;have h2:=Zsl m C r j cs;rw[List.length_append];omega);have hcl:=Zf (C:=C) a1 ax;have a7:r*C+c<n:=Fm;clear F G y Z aa;obtain ⟨⟨m0,m1,m2⟩, -⟩:=Y.three;have bg:=Y.lt;obtain ⟨⟨o0,o1,o2⟩,ab,ad,ae⟩:=d.three;have af:=d.lt;have nM:blk E≠some w.heap.size:=fun e=>Bl;have nX:blk E≠some xb:=fun e=>Bl;have nY:blk E≠some yb:=fun e=>Bl;have nO:blk E≠some (w.heap.size+1+1):=fun e=>(hlo _ e).2 rfl;generalize ZaN m C rs cs i++Zcl m C cs r j=L at *;generalize ag:ZaN m C rs cs i++Zcl m C cs r (j+1)=L' at *;have ah:=hid ag;clear ag;go_wp2;refine Zk2 15 (fun g=>blk E≠some g) [([0,1,2,3,4,5,6,7,8,9,10],some 11),([],some 12),([],some 13),([14],some 15)] ?_;refine Zct ?_;intro K hK;refine (ZO a n cp C r c (R:Int) m _ (a0.grow (JH _).drew) a7 I I I).mono ?_;rintro e w2 ⟨rfl,a8⟩;have hGa:=(JH wr).drew.trans a8;go_wp2_with fail;refine hK _ _ ((fun _=>hGa.any)) ?_;clear hK K;refine Zct ?_;intro K hK;have H:=hGa.alloc #[Yv Yi (cell m C r c)] 3;refine hK _ _ ((fun _=>H.any)) ?_;clear hK K;refine Zh ?_;refine ZY rfl (fun K hK=> ?_);have ai:=o.grow H;refine ZiY (.tmp 28) (.tmp 39) _ rfl T_ints rfl ai rfl (Row.built (S:=fun _=>True) 1 Γ rfl trivial) γ I Γ ?_;intro P c4 w4 hA4;have J:Keep (fun g=>blk E≠some g) wr w4:=H.any.trans hA4.keep;refine hK _ _ ((fun _=>J)) ?_;clear hK K;simp only[putP];refine Zh ?_;refine ZY rfl (fun K hK=> ?_);have M:=d.keep J nO;have B: ∀ g,blk P=some g->w.heap.size+2<=g/\g≠w.heap.size+1+1:=fun g hg=>by
      exact Iz
     have a9:Own w4 3 1 P L'.length c4 (ints L'):=CZ;have HL:=hid (show L'.length=L.length+1 by rw[HX.out];simp);obtain ⟨⟨bt,bv,bw⟩,bh,bi,bj⟩:=M.three;have ba:=M.lt;have bb:=M.set 2 (.slice P (L.length+1) c4);have aj:Keep (fun g=>g≠w.heap.size+1+1) w4 (w4.setCell ⟨w.heap.size+1+1,2,none⟩ (.slice P (L.length+1) c4)):=kS;have bc:=a9.keep aj fun g hg _=>(B g hg).2;have bd:Keep (fun q=>q<=w.heap.size+1) D (w4.setCell ⟨w.heap.size+1+1,2,none⟩ (.slice P (L.length+1) c4)):=
      (k.trans (J.mono fun g _ hg e=>Fq)).trans (aj.mono fun g _ hg=>I)
     clear hA4 o ai o0 o1 o2 ab ad ae;go_wp2_with fail;refine hK _ _ ((fun h=>(h rfl).elim)) ?_;clear hK K;refine Z8 ?_;go_wp2;go_roundw;case rel=>exact ⟨bd,j+1,c4,P,I,Δ,by rw[ah.out,HL.out];exact bb,by rw[ah.out];exact bc,B⟩
     case measure=>exact FN
    ·obtain rfl:j=q:=I;rw[←ay.out] at d o;go_wp2;go_roundw;case rel=>exact ⟨k,i+1,c3,E,I,Δ,d,o,hlo⟩
     case measure=>exact FN
  ·obtain rfl:i=p:=I;obtain ⟨⟨o0,o1,o2⟩,ab,ad,ae⟩:=d.three;have af:=d.lt;have N:=bZ.keep t I;obtain ⟨⟨z0,z1,z2⟩,bx,bz,b0⟩:=N.three;have bk:=N.lt;have ak:NumL (ZaN m C rs cs i):=Zsw hm;obtain ⟨L,O⟩:=eX (ZaN m C rs cs i);rw[←O] at d o ak o2;have al:=hid O.symm;clear O;have am:Keep (fun q=>q≠w.heap.size+1) wr (((wr.setCell ⟨w.heap.size+1,0,none⟩ (Yv Yi (i:Int))).setCell ⟨w.heap.size+1,1,none⟩ (Yv Yi (q:Int))).setCell ⟨w.heap.size+1,2,none⟩ (.slice f L.length l)):=
    kS
   have be:Grow w (((wr.setCell ⟨w.heap.size+1,0,none⟩ (Yv Yi (i:Int))).setCell ⟨w.heap.size+1,1,none⟩ (Yv Yi (q:Int))).setCell ⟨w.heap.size+1,2,none⟩ (.slice f L.length l)):=
    s.keep ((t.mono fun g _ hg=>BK).trans (am.mono fun g _ hg=>EF)) fun g hg=>hg
   have an: ∀ x∈L,I64 x:=Zp ak;have bf: ∀ g,blk f=some g->g<wr.heap.size:=fun g hg=>o.lt hg;go_wp2;exact Zx Zc rfl rfl rfl (((N.set 0 _).set 1 _).set 2 _) ⟨_,rfl,⟨f,L.length,l,rfl,by show Own _ _ _ _ _ _ (ints (ZaN m C rs cs i));rw[al.out];exact o.keep am (fun g hg _=>BI),by show ∀ x∈ZaN m C rs cs i,I64 x;rw[al.out];exact an,fun g hg=>⟨BI,by simpa using bf g hg⟩,DS,by show I64 (q:Int);unfold I64;omega⟩,be⟩
theorem ZsD {m:List Int} (hl:m.length=N*N) (hk:k<=N):ZaN m N (JN k) (JN k) k=ZbG m N k k:=by
 unfold ZaN ZbG;rw[List.take_of_length_le Θ];congr 1;refine List.map_congr_left fun i a=> ?_;have a:=JW.1 a;apply List.ext_getElem
 ·rw[List.length_map,List.length_range,List.length_take,Zea hl I];omega
 ·intro j h1 d;have e:j<k:=C8
  simp only[List.getElem_map,List.getElem_range];have b:=Zeq hl (show i<N by omega) (show j<N by omega);rw[QL];unfold Zag;rw[QL,List.getElem_drop];have c:=(List.getElem?_eq_some_iff.1 b).2;exact c.symm
theorem ZtA (a:Option Addr) (n cp N k:Nat) (m:List Int) (w:World) (h:RdI w S a n cp m) (hl:m.length=N*N) (hN:N<=24) (hm:NumL m) (hk:k<=N):
  Calls JG 293 #[.agg #[Yv Yi N,Yv Yi N, .slice a n cp],Yv Yi k] w fun e w'=> ∃ r,e= .returned r/\OM w' (New w w') r {rows:=(k:Int),cols:=(k:Int),cells:=ZbG m N k k}/\Grow w w':=by
 obtain ⟨F,b,l,Y,Z, -, -⟩:=al3 w #[Yv Yi N,Yv Yi N, .slice a n cp] 37 #[Yv Yi 0,Yv Yi 0, .slice none 0 0] 37 #[] 3;have hE:Own F 3 1 (some ⟨w.heap.size+1+1,0,none⟩) 0 0 []:=by rw[b];exact Own.freshAt (cs:= #[]) Θ Γ rfl
 have HC:=hid (ZsD hl hk);go_enter func293,ntmps293;go_wp2_with fail;rw[←b];clear b;go_loopw [5,6] (fun lv iv wr=>Keep (fun q=>q<=w.heap.size+1) F wr/\ ∃ (i j:Nat) (c:Option Addr),i<=k/\iv=Yv Yi i/\lv= .slice c i j/\Own wr 3 1 c i j (ints (ZeR (JN i)))/\ ∀ g,blk c=some g->w.heap.size+1<g) (fun _ i _=>k-(intOf i).toNat);case atStart=>exact ⟨Keep.refl _ _,0,0,_,JI _,rfl,rfl,hE,fun g hg=>κ⟩
 case round=>
  clear hE;obtain ⟨hK,i,j,c,hi,rfl,rfl,hO,o⟩:=hrel;by_cases ab:i<k
  ·have HX:=hid (show ZeR (JN (i+1))=ZeR (JN i)++[(i:Int)] by unfold ZeR;rw[KV,K0];rfl);go_wp2_with (at_builtin;refine ZD rfl (.tmp 13) (.tmp 15) _ rfl T_ints rfl (hO.grow ((JH _).alloc _ _)) rfl (Row.built (S:=fun _=>True) 1 Γ rfl trivial) γ I Γ ?_;intro G c5 w5 d);have H:Own w5 3 1 G (i+1) c5 (ints (ZeR (JN (i+1)))):=(by have:=d.own;rw[HX.out];simpa using this);have hs:=hK.size;have ad:=l.size;have J:Keep (fun q=>q<=w.heap.size+1) F w5:=(hK.trans ((JH _).alloc _ _).any).trans (d.keep.mono fun g _ hg e=>by have:=o g e;omega);have s: ∀ g,blk G=some g->w.heap.size+1<g:=d.lo (by have:=Y.lt;have:=Z.lt;simp;omega) o;go_wp2;go_roundw;case rel=>exact ⟨J,i+1,c5,G,I,Δ,rfl,H,s⟩
   case measure=>exact FN
  ·obtain rfl:i=k:=I;have L:Grow w wr:=l.keep hK fun q hq=>I;have t:=Y.keep hK I;have v:=Z.keep hK I;obtain ⟨⟨m0,m1,m2⟩, -⟩:=t.three;have z:=t.lt;have A:RdI wr (fun _=>True) c i j (ZeR (JN i)):=hO.rdI (fun _ _=>trivial) fun x hx=>(by unfold ZeR at hx;obtain ⟨y,hy,rfl⟩:=Kc.1 hx;have:=JW.1 hy;unfold I64;omega);have B: ∀ x∈JN i,x<N:=fun x hx=>Eo;have C:=hid B;clear B;go_wp2_with fail;refine (Zvg a c c n cp N N i i j j m (JN i) (JN i) _ (h.grow L) hl hN hN hm A A Θ Θ I I C.out C.out).mono ?_;rintro e w4 ⟨rv,rfl,⟨M,O,P,rfl,oP,rP,fP,j1,j2⟩,D⟩;rw[HC.out] at oP rP;have f:=v.grow D;clear m0 m1 m2 z;obtain ⟨⟨z0,z1,z2⟩,f0,f1,f2⟩:=f.three;have R:=f.lt;have T:=L.trans D;have V:w.heap.size<=w.heap.size+1:=I;have aa:=v.lt;have W:Keep (fun q=>q≠w.heap.size+1) w4 (((w4.setCell ⟨w.heap.size+1,0,none⟩ (Yv Yi (i:Int))).setCell ⟨w.heap.size+1,1,none⟩ (Yv Yi (i:Int))).setCell ⟨w.heap.size+1,2,none⟩ (.slice M O P)):=
    kS
   have E:=oP.keep W fun g hg _ e=>BU;have X:=((T.setCell (p:=⟨w.heap.size+1,0,none⟩) V (Yv Yi (i:Int))).setCell (p:=⟨w.heap.size+1,1,none⟩) V (Yv Yi (i:Int))).setCell (p:=⟨w.heap.size+1,2,none⟩) V (.slice M O P);have ae:=L.size;go_wp2;exact Zx Zc rfl rfl rfl (((f.set 0 _).set 1 _).set 2 _) ⟨_,rfl,⟨M,O,P,rfl,E,rP,fun g hg=>⟨BU,E.lt hg⟩,j1,j2⟩,X⟩
theorem ZvL (h:VM w S v m) (hb:bdM m<=1048576):
  Calls JG 258 #[v] w fun e w'=> ∃ x,e= .returned (.tuple #[x, .bool (ZeJ m)])/\OI w' (New w w') x (ldL m)/\Grow w w':=by
 have O:=h;obtain ⟨a,n,cp,rfl,h,ir,ic⟩:=h;obtain ⟨z,P,o,bM,R⟩:=al1 w #[Yv Yi m.rows,Yv Yi m.cols, .slice a n cp] 37;have E:=hid R;have F:=hid P;clear P R;cases G:ZZ m with
 |false=>
  have Hr:=hid (show ZeJ m=false/\ldL m=[] by unfold ZeJ ldL;rw[G];exact ⟨rfl,rfl⟩);have Hm:=hid G;clear G;have ah:Grow z (z.alloc (.cells #[] 3)):=(JH _).alloc _ _;have ai:OI (z.alloc (.cells #[] 3)) (fun q=>w.heap.size<=q) (.slice (some ⟨w.heap.size+1,0,none⟩) 0 0) []:=OI.mt E.out.symm I;go_enter QM,QN;go_wp2_with fail;rw[←F.out];go_loopw [4,5] (fun ov kv wr=>Grow z wr/\kv=Yv Yi 1/\ov= .slice (some ⟨w.heap.size+1,0,none⟩) 0 0/\OI wr (fun q=>w.heap.size<=q) (.slice (some ⟨w.heap.size+1,0,none⟩) 0 0) []) (fun _ _ _=>0);case atStart=>exact ⟨ah,rfl,rfl,ai⟩
  case round=>
   obtain ⟨c,rfl,rfl,V⟩:=hrel;have j:=bM.grow c;obtain ⟨⟨W,X,Y⟩, -⟩:=j.three;have f:=j.lt;have p:=o.trans c;by_cases h1:1<=m.rows
   ·go_wp2_with fail;refine (ZaR (O.grow p) hb).mono ?_;rintro e w2 ⟨rfl,b⟩;rw[Hm.out];have r:=j.grow b;clear W X Y f;obtain ⟨⟨W,X,Y⟩, -⟩:=r.three;have f:=r.lt;go_wp2_with fail;refine (ZaR ((O.grow p).grow b) hb).mono ?_;rintro e w3 ⟨rfl,s⟩;rw[Hm.out];go_wp2
    go_ret2
    exact ⟨_,Cj,by rw[Hr.out.2];exact (((V.grow b).grow s).weak (fun q A D=>⟨D,A⟩)),(p.trans b).trans s⟩
   ·go_wp2_with fail;refine (ZaR (O.grow p) hb).mono ?_;rintro e w2 ⟨rfl,b⟩;rw[Hm.out];go_wp2
    go_ret2
    exact ⟨_,Cj,by rw[Hr.out.2];exact ((V.grow b).weak (fun q A D=>⟨D,A⟩)),p.trans b⟩
 |true=>
  obtain ⟨N,Z,e2,hN,hl,hn⟩:=Zdq G;have Hr:=hid (show ZeJ m=(ZaL m.cells N N).isSome/\ldL m=(ZaL m.cells N N).getD [] by unfold ZeJ ldL;rw[G,Z];exact ⟨rfl,rfl⟩);have Hm:=hid G;obtain ⟨g,hg⟩:=eX m.cells;rw[Z,e2] at bM F;rw[←hg] at hl hn Hr;have Hg:=hid hg;have aj:RdI z (fun g=>g<w.heap.size) a n cp g:=by rw[hg];exact (h.weak (T:=fun g=>g<w.heap.size) (fun _ hb _=>hb)).grow o
  have hE:Own (z.alloc (.cells #[] 3)) 3 1 (some ⟨w.heap.size+1,0,none⟩) 0 0 []:=Own.freshAt (cs:= #[]) E.out.symm Γ rfl;have Hl:=hid hl;have HV:=hid (fun (w':World) (p:Grow w w')=>(by rw[Z,e2] at O;exact O.grow p:VM w' S (.agg #[Yv Yi (N:Int),Yv Yi (N:Int), .slice a n cp]) m));clear G hg h O hl ir ic;rw[Z,e2];clear Z e2;go_enter QM,QN;go_wp2_with fail;rw[←F.out];go_loopw [4,5] (fun ov kv wr=>Grow z wr/\ ∃ (k c2:Nat) (a2:Option Addr) (l:List Int),k<=N/\kv=Yv Yi ((k+1:Nat):Int)/\ov= .slice a2 k c2/\ZaL g N k=some l/\Own wr 3 1 a2 k c2 (ints l)/\ ∀ q,blk a2=some q->z.heap.size<=q) (fun _ k _=>N+1-(intOf k).toNat);case atStart=>exact ⟨(JH _).alloc _ _,0,0,_,[],JI _,rfl,rfl,rfl,hE,fun q D=>by have:=E.out;simp at D;omega⟩
  case round=>
   clear hE;obtain ⟨c,k,c2,a2,l,hk,rfl,rfl,H,V,J⟩:=hrel;have j:=bM.grow c;obtain ⟨⟨W,X,Y⟩, -⟩:=j.three;have f:=j.lt;have ar:=c.size;have p:=o.trans c;have ak:=ZiT H;have B:=hid H;clear H;by_cases A:k<N
   ·have al:((k+1:Nat):Int)<=(N:Int):=I;go_wp2_with fail;refine (ZaR (HV.out _ p) hb).mono ?_;rintro e w2 ⟨rfl,b⟩;rw[Hm.out];have r:=j.grow b;clear W X Y f;obtain ⟨⟨W,X,Y⟩, -⟩:=r.three;have f:=r.lt;have HK:=hid (show ∃ i,i=k+1 from ⟨_,rfl⟩);obtain ⟨i,aa⟩:=HK.out;clear HK;have ab:(k:Int)+1=(i:Int):=I;rw[ab];clear ab;have t:i<=N:=I;have y:=hid aa;clear aa;go_wp2_with fail;refine (ZtA a n cp N i g _ ((aj.grow c).grow b) Hl.out I hn t).mono ?_;rintro e w3 ⟨rv,rfl,⟨pa,pn,pc,rfl,oP,rP,fP, -, -⟩,s⟩;have am:=oP.rdI (S:=fun _=>True) (fun _ _=>trivial) rP;go_wp2_with fail;refine (ZnT i pa pn pc (ZbG g N i i) _ am (Zh9 Hl.out t t) I (Zkf hn i)).mono ?_;rintro e w4 ⟨rfl,ad⟩;have C:=((c.trans b).trans s).trans ad;have an:=((V.grow b).grow s).grow ad;cases L:Zad i (ZbG g N i i) with
    |none=>
     have Hn:=hid (show ZaL g N N=none from Zm9 (k:=i) (by
      rw[y.out] at L ⊢;simp only[ZaL];rw[B.out,Option.bind_some,L];rfl) t)
     rw[show ((none:Option Int).getD ZS)= -4611686018427387904 from rfl];clear L;go_wp2
     go_ret2
     exact ⟨_,by rw[Hr.out.1,Hn.out];rfl,by rw[Hr.out.2,Hn.out];exact OI.mt rfl ⟨by have:=C.size;have:=o.size;omega,Θ⟩,(o.trans C).alloc _ _⟩
    |some d=>
     have ao:=hid (show ZaL g N i=some (l++[d]) by
      rw[y.out] at L ⊢;simp only[ZaL];rw[B.out,Option.bind_some,L];rfl)
     have av:=Zb0 L;have q2:(d== -4611686018427387904)=false:=μ;rw[show ((some d:Option Int).getD ZS)=d from rfl];clear L;go_wp2_with (at_builtin;refine ZD rfl (.tmp 25) (.tmp 27) _ rfl T_ints rfl (an.grow ((JH _).alloc _ _)) rfl (Row.built (S:=fun _=>True) 1 Γ rfl trivial) γ I Γ ?_;intro a5 c5 w5 M);have ap:Grow z w5:=M.grow (C.alloc _ _) J;have ae:Own w5 3 1 a5 (k+1) c5 (ints (l++[d])):=(by have:=M.own;simpa using this);have af: ∀ q,blk a5=some q->z.heap.size<=q:=M.lo (by have:=C.size;simp;omega) J;rw[←y.out] at ae;rw[←y.out];have aq:=hid (show i=k+1 from y.out);go_wp2;go_roundw;case rel=>exact ⟨ap,i,c5,a5,l++[d],t,Δ,rfl,ao.out,ae,af⟩
     case measure=>have:=aq.out;exact FN
   ·obtain rfl:k=N:=I;have al: ¬ ((k+1:Nat):Int)<=(k:Int):=I;go_wp2_with fail;refine (ZaR (HV.out _ p) hb).mono ?_;rintro e w2 ⟨rfl,b⟩;rw[Hm.out];have ag:=V.grow b;go_wp2
    go_ret2
    exact ⟨_,by rw[Hr.out.1,B.out];rfl,by rw[Hr.out.2,B.out];exact ⟨_,_,_,rfl,ag,fun x hx=>by have:=ak.2 x hx;unfold I64;omega,fun q D=>⟨by have:=J q D;have:=o.size;omega,ag.lt D⟩⟩,p.trans b⟩
theorem ZsV (h:VM w S v m) (hb:bdM m<=1048576):
  Calls JG 252 #[v] w fun e w'=>e= .returned (.bool (Za7 m))/\Grow w w':=by
 have F:=h;obtain ⟨a,n,c,rfl,h,ir,ic⟩:=h;obtain ⟨w1,O,q,bM, -⟩:=al1 w #[Yv Yi m.rows,Yv Yi m.cols, .slice a n c] 37;have s:=hid O;clear O;cases t:ZZ m with
 |false=>
  have G:=hid (show Za7 m=false by unfold Za7;rw[t];rfl);have Hm:=hid t;clear t;go_enter QO,QP;go_wp2_with fail;rw[←s.out];go_loopw [3] (fun P wr=>Grow w1 wr/\P=Yv Yi 0) (fun _ _=>0);case atStart=>exact ⟨JH _,rfl⟩
  case round=>
   obtain ⟨l,rfl⟩:=hrel;have b:=bM.grow l;obtain ⟨⟨H,J,L⟩, -⟩:=b.three;have f:=b.lt;have o:=q.trans l;by_cases h1:0<m.rows
   ·go_wp2_with fail;refine (ZaR (F.grow o) hb).mono ?_;rintro e w2 ⟨rfl,d⟩;rw[Hm.out];have R:=b.grow d;clear H J L f;obtain ⟨⟨H,J,L⟩, -⟩:=R.three;have f:=R.lt;go_wp2_with fail;refine (ZaR ((F.grow o).grow d) hb).mono ?_;rintro e w3 ⟨rfl,z⟩;rw[Hm.out];go_wp2;go_ret;exact ⟨Zm G.out.symm,(o.trans d).trans z⟩
   ·go_wp2_with fail;refine (ZaR (F.grow o) hb).mono ?_;rintro e w2 ⟨rfl,d⟩;rw[Hm.out];go_wp2;go_ret;exact ⟨Zm G.out.symm,o.trans d⟩
 |true=>
  obtain ⟨N,T,V,hN,W,hn⟩:=Zdq t;have G:=hid (Zv0 t T V W);have Hm:=hid t;obtain ⟨g,hg⟩:=eX m.cells;rw[T,V] at bM s;rw[←hg] at W hn G;have X:RdI w1 S a n c g:=by rw[hg];exact h.grow q
  have Y:=X.len;have Hl:=hid W;have HV:=hid (fun (w':World) (o:Grow w w')=>(by rw[T,V] at F;exact F.grow o:VM w' S (.agg #[Yv Yi (N:Int),Yv Yi (N:Int), .slice a n c]) m));have Z:=hid (fun (i j:Nat) (hi:i<N) (hj:j<N)=>(by rw[←Y,W];exact Zf hj hi:i*N+j<n));clear t hg h F W ir ic hn Y;rw[T,V];clear T V;go_enter QO,QP;go_wp2_with fail;rw[←s.out];go_loopw [3] (fun P wr=>Grow w1 wr/\ ∃ i:Nat,i<=N/\P=Yv Yi i/\ZfL g N i=true) (fun k _=>N-(intOf k).toNat);case atStart=>exact ⟨JH _,0,JI _,rfl,rfl⟩
  case round=>
   obtain ⟨l,i,hi,rfl,r⟩:=hrel;have b:=bM.grow l;obtain ⟨⟨H,J,L⟩, -⟩:=b.three;have f:=b.lt;have o:=q.trans l;by_cases A:i<N
   ·have ae:=hid (show ZfL g N (i+1)=ZhA g N i i by rw[Zsy,r];rfl);clear r;go_wp2_with fail;refine (ZaR (HV.out _ o) hb).mono ?_;rintro e w2 ⟨rfl,d⟩;rw[Hm.out];have aa:=l.trans d;clear H J L f b;go_wp2;obtain ⟨wo,rfl⟩:=eX wr;go_loopw [4] (fun P wr=>Grow w1 wr/\ ∃ j:Nat,j<=i/\P=Yv Yi j/\ZhA g N i j=true) (fun k _=>i-(intOf k).toNat);case atStart=>exact ⟨aa,0,JI _,rfl,rfl⟩
    case round=>
     obtain ⟨p,j,hj,rfl,r⟩:=hrel;have b:=bM.grow p;obtain ⟨⟨H,J,L⟩, -⟩:=b.three;have f:=b.lt;have af:=q.trans p;by_cases ab:j<i
     ·have B:=hid (show ZhA g N i (j+1)=(cell g N i j==cell g N j i) by rw[ZrC,r];rfl);have p1:=Z.out i j A I;have p2:=Z.out j i I A;have ad:=X.grow p;clear r;go_wp2_with fail;clear H J L;refine ZaH [([0,1,2,4,5,6],some 3),([],some 7),([8],none)] ?_;refine ZR ?_;intro K hK;refine (ZO a n c N i j (N:Int) g _ (ad.grow (JH _).drew) p1 I I I).mono ?_;rintro e w3 ⟨rfl,z⟩;have C:=(JH wr).drew.trans z;go_wp2_with fail;refine hK _ _ (C) ?_;clear hK K;refine ZR ?_;intro K hK;refine (ZO a n c N j i (N:Int) g _ (ad.grow C) p2 I I I).mono ?_;rintro e w4 ⟨rfl,ag⟩;have D:=C.trans ag;go_wp2_with fail;refine hK _ _ (D) ?_;clear hK K;refine Zh ?_;refine Ze ?_;by_cases M:cell g N i j=cell g N j i
      ·have q1:(cell g N i j !=cell g N j i)=false:=(by simp[M]);have E:=hid (show ZhA g N i (j+1)=true by rw[B.out,M];simp);clear M B;generalize cell g N i j=x at *;generalize cell g N j i=y at *;go_wp2;go_roundw;case rel=>exact ⟨p.trans D,j+1,I,Δ,E.out⟩
       case measure=>exact FN
      ·have q1:(cell g N i j !=cell g N j i)=true:=(by simp[M]);have Hn:=hid (show Za7 m=false by rw[G.out];exact ZuH A ab M);clear M B;generalize cell g N i j=x at *;generalize cell g N j i=y at *;go_wp2;go_ret;exact ⟨Zm Hn.out.symm,af.trans D⟩
     ·obtain rfl:j=i:=I;have E:=hid (show ZfL g N (j+1)=true by rw[ae.out];exact r);clear r;go_wp2;go_roundw;case rel=>exact ⟨p,j+1,I,Δ,E.out⟩
      case measure=>exact FN
   ·obtain rfl:i=N:=I;have Hn:=hid (show Za7 m=true by rw[G.out];exact r);clear r;go_wp2_with fail;refine (ZaR (HV.out _ o) hb).mono ?_;rintro e w2 ⟨rfl,d⟩;rw[Hm.out];go_wp2;go_ret;exact ⟨Zm Hn.out.symm,o.trans d⟩
theorem ZuO {l:List Int} {x:Int} (h:l[k]? =some x) (hx:x<=0):(l.all fun d=>decide (0<d))=false:=by
 rw[Bool.eq_false_iff];intro e;rw[Kn] at e;have:=e x (JX h);simp at this;omega
theorem Zij (h:VM w S v m) (hb:bdM m<=1048576):
  Calls JG 206 #[v] w fun e w'=>e= .returned (.bool (ZbL m))/\Grow w w':=by
 have s:=h;obtain ⟨a,n,c,rfl,h,T,V⟩:=h;have j:=(JH w).alloc #[Yv Yi m.rows,Yv Yi m.cols, .slice a n c] 37;have F:=Blk.new w #[Yv Yi m.rows,Yv Yi m.cols, .slice a n c] 37;go_enter func206,ntmps206;go_wp2_with fail;refine (ZvL (s.grow j) hb).mono ?_;rintro e G ⟨W,rfl,B,o⟩;obtain ⟨X,p,Y,rfl,rX⟩:=B.rd (S:=fun _=>True) fun _ _=>trivial;have hG:=j.trans o;have q:=F.grow o;have H:=s.grow hG;have t:=hid (ZuA m);obtain ⟨C,f⟩: ∃ x,ZeJ m=x:=⟨_,rfl⟩;obtain ⟨l,y⟩: ∃ x,ldL m=x:=⟨_,rfl⟩;rw[f,y] at t;rw[y] at rX;rw[f];have r:=rX.len;have z:=hid r;have D:p<=9223372036854775807:=DV
 clear f y B s h r;go_wp2;go_loopw [5] (fun J wr=>Grow G wr/\ ∃ k:Nat,k<=p/\J=Yv Yi k/\((l.take k).all fun d=>decide (0<d))=true) (fun i _=>p-(intOf i).toNat);case atStart=>exact ⟨JH _,0,JI _,rfl,Θ⟩
 case round=>
  obtain ⟨hGr,k,Z,rfl,g⟩:=hrel;by_cases A:k<p
  ·obtain ⟨b1,o1,x,rfl,b,L,_,M,N⟩:=(rX.grow hGr).at A;have O:=hid (show ((l.take (k+1)).all fun d=>decide (0<d))=decide (0<x) by rw[ZH b,Mw,g];simp);by_cases P:0<x
   ·clear g b;go_wp2;go_roundw;case rel=>exact ⟨hGr,k+1,I,Δ,by rw[O.out];simp[P]⟩
    case measure=>exact FN
   ·have R:=hid (show ZbL m=false by rw[t.out,ZuO b I];simp);clear g b;go_wp2;go_ret;exact ⟨Zm R.out.symm,hG.trans hGr⟩
  ·obtain rfl:k=p:=I;rw[Z5 z.out] at g;have Hr:=hid (show ZbL m=(C&&Za7 m) by rw[t.out,g];simp);clear g;obtain ⟨⟨m0,m1,m2⟩, -⟩:=(q.grow hGr).three;have E:=(q.grow hGr).lt;cases C with
   |false=>go_wp2;go_ret;exact ⟨Zm A7,hG.trans hGr⟩
   |true=>go_wp2_with fail;refine (ZsV (H.grow hGr) hb).mono ?_;exact Jq

end Go.Proofs.YtgjefeiddfjjnaaGreatDoor
