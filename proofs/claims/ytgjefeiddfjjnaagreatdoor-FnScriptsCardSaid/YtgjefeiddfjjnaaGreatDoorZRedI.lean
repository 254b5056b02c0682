/- The program's ReduceGram: what it returns for every form. -/
import Derived.Test.YtgjefeiddfjjnaaGreatDoorZStepI
import Derived.Test.YtgjefeiddfjjnaaGreatDoorZAddM
set_option maxHeartbeats 8000000
set_option maxRecDepth 100000
namespace Go.Proofs.YtgjefeiddfjjnaaGreatDoor
open Go.RowKit
open Lib (hid)
open Go.Value renaming int->Yv
open Go.IntKind renaming i64->Yi
open Bool renaming and_eq_true->JQ
open Option renaming bind_some->Kb
open Option.some renaming inj->JJ,injEq->L7
open Go.Proofs.Tryz renaming func272->Q2,ntmps272->Q3,prog->JG
variable {R c f k kb n:Nat} {S:Nat->Prop} {T:TypeId} {a:Option Addr} {b m:Mat} {s:SS} {v:Value} {w:World}
theorem Zn8 (hb:Blk w kb #[v] T) (hn:2<=n) {l:List Int} (hO:Own w 3 1 a (n*n) c (ints l)):blk a≠some kb:=fun e=>by
 obtain ⟨q,rfl⟩: ∃ q,a=some q:=by cases a with
  |none=>cases e
  |some q=>exact ⟨q,rfl⟩
 obtain ⟨g,h,b,d,i⟩:=hO.block _ rfl;rw[show q.block=kb from JJ e] at b;have f:=hb.symm.trans b;simp only[L7,Obj.cells.injEq] at f;have j:=hO.le;rw[←f.1] at d;simp at d;have:2*2<=n*n:=Nat.mul_le_mul hn hn;omega
theorem ZgG {S:SS} (h: ¬ k<n):Zb2 n f k S=some S:=by
 cases f with
 |zero=>unfold Zb2;rw[if_neg h]
 |succ f=>unfold Zb2;rw[if_neg h]
theorem Zgc {S:SS} (h:k<n):Zb2 n 0 k S=none:=by unfold Zb2;rw[if_pos h]
theorem ZfA {S:SS} (h:k<n):Zb2 n (f+1) k S=(Zas S.1 n n).bind fun o=>(Zba n k o S).bind fun r=>Zb2 n f r.2 r.1:=by
 show (if k<n then _ else _)=_;rw[if_pos h]
theorem ZgP (h:ZbL m=true): ∃ R:Nat,m.rows=R/\m.cols=R/\R<=6/\m.cells.length=R*R/\NumL m.cells:=by
 have b:ZZ m=true:=by unfold ZbL Za7 at h;simp only[JQ] at h;exact h.1.1
 unfold ZZ at b;simp only[JQ,decide_eq_true_eq] at b;obtain ⟨R,C,c,d,f,g,e,a⟩:=Zl b.1;obtain ⟨-,i,j⟩:=b;have:R=C:=I
 subst this;exact ⟨R,c,d,I,e,a⟩
theorem Ztq {mr mc:Int} (hVM:VM w S (.agg #[Yv Yi mr,Yv Yi mc, .slice a n c]) m) (hb:bdM m<=1048576) (hB:ZbL m=false):
  Calls JG 272 #[.agg #[Yv Yi mr,Yv Yi mc, .slice a n c]] w fun e w'=>e= .returned (.tuple #[zM,zM, .bool false])/\Grow w w':=by
 obtain ⟨f,b,hG,g,bR1,bR2, -⟩:=al3 w #[Yv Yi mr,Yv Yi mc, .slice a n c] 37 #[Yv Yi 0,Yv Yi 0, .slice none 0 0] 37 #[Yv Yi 0,Yv Yi 0, .slice none 0 0] 37;have d:=hid b;clear b;have HB:=hid hB;clear hB;go_enter Q2,Q3;go_wp2_with fail;rw[←d.out];refine (ZfS (hVM.grow hG) I).mono ?_;exact Gf
theorem ZvM {B g C:Nat} {aa au ar:Option Addr} {ca cu cr:Nat} {b:Bool} (hb:Blk w kb #[v] T) (h:WkP w B g R C aa au ar ca cu cr b s):kb≠g:=fun e=>by
 have a:=h.wk.g.c6;rw[←e,hb.cell 6] at a;simp at a
theorem Zrp {cells:List Int} (h:RdI w S a n c cells) (hl:cells.length=R*R) (hnum:NumL cells) (hR:R<=6) (hD:ZbL {rows:=(R:Int),cols:=(R:Int),cells:=cells}=true):
  Calls JG 272 #[.agg #[Yv Yi R,Yv Yi R, .slice a n c]] w fun e w'=>Grow w w'/\((ZbC {rows:=(R:Int),cols:=(R:Int),cells:=cells}=none/\e= .returned (.tuple #[zM,zM, .bool false]))\/
   ∃ s aa ca au cu,ZbC {rows:=(R:Int),cols:=(R:Int),cells:=cells}=some s/\e= .returned (.tuple #[.agg #[Yv Yi R,Yv Yi R, .slice aa (R*R) ca], .agg #[Yv Yi R,Yv Yi R, .slice au (R*R) cu], .bool true])/\RdI w' (fun q=>w.heap.size<=q) aa (R*R) ca s.1/\RdI w' (fun q=>w.heap.size<=q) au (R*R) cu s.2.1):=by
 have bm:R*R<=6*6:=Nat.mul_le_mul hR hR;obtain ⟨mr,T⟩: ∃ mr:Int,mr=R:=⟨_,rfl⟩;obtain ⟨mc,V⟩: ∃ mc:Int,mc=R:=⟨_,rfl⟩;have af:VM w S (.agg #[Yv Yi R,Yv Yi R, .slice a n c]) {rows:=(R:Int),cols:=(R:Int),cells:=cells}:=⟨a,n,c,rfl,h,δ,δ⟩;have ag:VM w S (.agg #[Yv Yi mr,Yv Yi mc, .slice a n c]) {rows:=(R:Int),cols:=(R:Int),cells:=cells}:=by rw[T,V];exact af
 obtain ⟨i,z⟩:=eX (ZbC {rows:=(R:Int),cols:=(R:Int),cells:=cells});rw[←z];have M:=hid (show Zb2 R 200 1 (cells,idL R,idL R)=i by rw[z];unfold ZbC;rw[if_pos hD];simp);have HD:=hid hD;have e0:(.agg #[Yv Yi (R:Int),Yv Yi (R:Int), .slice a n c]:Value)= .agg #[Yv Yi mr,Yv Yi mc, .slice a n c]:=by rw[T,V]
 rw[e0];clear e0 z hD af;obtain ⟨w3,ah,hG,bM,bR1,bR2, -⟩:=al3 w #[Yv Yi mr,Yv Yi mc, .slice a n c] 37 #[Yv Yi 0,Yv Yi 0, .slice none 0 0] 37 #[Yv Yi 0,Yv Yi 0, .slice none 0 0] 37;have ai:=hid ah;clear ah;subst T;subst V;go_enter Q2,Q3;go_wp2_with fail;rw[←ai.out];refine (ZfS (ag.grow hG) Ar).mono ?_;rintro e w4 ⟨rfl,j⟩;rw[HD.out];have W:=bM.grow j;obtain ⟨⟨a0,a1,a2⟩, -⟩:=W.three;have a3:w.heap.size+1+1<w4.heap.size:=(bR2.grow j).lt;go_wp2_with fail;refine (ZkV ((h.grow hG).grow j) hl I I).mono ?_;rintro e w5 ⟨g,aa,au,ar,ca,rfl,X,p⟩;obtain ⟨B,hB⟩:=eX w4.heap.size;rw[←hB] at X a3;have aj:Ss R R (cells,idL R,idL R):=⟨hl,Zbl R,Zbl R,hnum,Zbi R,Zbi R⟩;obtain ⟨kb,Y⟩:=eX w5.heap.size;obtain ⟨w6,Z,t, -, -⟩:=al1 w5 #[Yv Yi 1] 3;have N:Blk w6 kb #[Yv Yi 1] 3:=by rw[Z];exact Blk.newAt _ _ _ Y
 have a4:B<=kb:=by have:=p.size;omega
 have ak:WkS w6 B g R R false (cells,idL R,idL R):=(X.grow t).s;have a5:=(W.grow p).grow t;have D:=((bR1.grow j).grow p).grow t;have E:=((bR2.grow j).grow p).grow t;have F:=((hG.trans j).trans p).trans t;have G: ∀ q,q<w.heap.size->q<B:=fun q hq=>I
 have nM:w.heap.size<B:=I
 have H:w.heap.size+1<B:=I
 have J:w.heap.size+1+1<B:=I
 have a6:=hid Z;have a7:=hid Y;clear hG j p t bM W bR1 bR2 a0 a1 a2 ai ag HD h X hB Z Y;go_wp2;rw[←a6.out, ←a7.out];go_loopw [7] (fun tv wr=>Keep (fun q=>q<B) w6 wr/\ ∃ (f k:Nat) (s:SS),f<=200/\tv=Yv Yi f/\WkS wr B g R R false s/\Ss R R s/\Blk wr kb #[Yv Yi k] 3/\1<=k/\Zb2 R (200-f) k s=i) (fun tv _=>200-(intOf tv).toNat);case atStart=>exact ⟨Keep.refl _ _,0,1,_,I,rfl,ak,aj,N,I,M.out⟩
 case round=>as_aux_lemma=>
  clear ak aj M N;obtain ⟨hK,f,k,s,hf,rfl,hW,O,ab,al,hh⟩:=hrel;have ad:=a5.keep hK nM;obtain ⟨⟨m0,m1,m2⟩, -⟩:=ad.three;obtain ⟨aa,au,ar,ca,cu,cr,v⟩:=hW;obtain ⟨c0,c1,c2, -, -, -,c9, -⟩:=v.wk.g;have a8:g<wr.heap.size:=Blk.lt v.wk;have k0:wr.cell? ⟨kb,0,none⟩=some (Yv Yi (k:Int)):=by rw[ab.cell];rfl
  have am:=ab.lt;have an:=ad.lt;have Hh:=hid hh;clear hh;by_cases x:k<R
  ·have rA:=v.th.oa.rdI (S:=fun _=>True) (fun _ _=>trivial) (Zp O.na);go_wp2_with fail;refine (ZqL aa _ ca R s.1 _ rA O.la I O.na).mono ?_;rintro e w7 ⟨xa,xn,xc,ya,yn,yc,rfl,ao,a9⟩;obtain ⟨w8,hw8,P,bO, -⟩:=al1 w7 #[.slice xa xn xc, .slice ya yn yc] 261;have ae:=hid hw8;have d:=a9.trans P;have b:Keep (fun q=>q<B) w6 w8:=hK.trans (d.any.mono fun _ _ _=>trivial);obtain ⟨⟨o0,o1⟩, -⟩:=bO.two;have ap:=bO.lt;have A:=ab.grow d;clear m0 m1 m2 c0 c1 c2 c9 k0 am an hw8 a8 ad;cases C:Zas s.1 R R with
   |none=>
    have L:=hid C;clear C;have Hn:=hid (show i=none by (rw[←Hh.out];cases (200-f) with |zero=>exact Zgc x|succ q=>rw[ZfA x,L.out];rfl));replace hG:=F.keep b G;replace bR1:=D.keep b H;replace bR2:=E.keep b J;rw[ae.out] at bR1 bR2 hG;have h1:w.heap.size<=w.heap.size+1:=I;have h2:w.heap.size<=w.heap.size+1+1:=I;have n12:w.heap.size+1≠w.heap.size+1+1:=I;obtain ⟨⟨a0,a1,a2⟩,f0,f1,f2⟩:=bR1.three;obtain ⟨⟨b0,b1,b2⟩,g0,g1,g2⟩:=bR2.three;have hltA:=bR1.lt;have hltB:=bR2.lt;go_wp2
    refine Zv Zc Zc rfl rfl rfl rfl
     ((((((bR1.set 0 _).set 1 _).set 2 _).other n12 _).other n12 _).other n12 _)
     ((((((bR2.other n12.symm _).other n12.symm _).other n12.symm _).set 0 _).set 1 _).set 2 _) ?_
    exact ⟨(((((hG.setCell h1 _).setCell h1 _).setCell h1 _).setCell h2 _).setCell h2 _).setCell h2 _, .inl ⟨Hn.out,rfl⟩⟩
   |some o=>
    have L:=hid C;have ba:=(ao o C).grow P;clear C ao;by_cases bn:f=200
    ·have q1:((f:Int)==200)=true:=Ψ;have Hn:=hid (show i=none by (rw[←Hh.out,show 200-f=0 by omega];exact Zgc x));replace hG:=F.keep b G;replace bR1:=D.keep b H;replace bR2:=E.keep b J;rw[ae.out] at bR1 bR2 hG;exact FE
    ·have q1:((f:Int)==200)=false:=μ;have Hl:=hid (Zd7 L.out);have P8:=v.grow d;go_wp2_with fail;rw[←ae.out];refine (Zvb B g R k kb aa au ar ca cu cr s _ o _ P8 O ba Hl.out.1 Hl.out.2.1 Hl.out.2.2 al x I A a4 (ZvM A P8) (Zn8 A I P8.th.oa) (Zn8 A I P8.th.ou) (Zn8 A I P8.th.ov)).mono ?_;rintro e w9 ⟨rfl,aq,l⟩;have m:=b.trans l;have av:=hid aq;have aw:=hid (fun r=>Zp3 (k:=k) (o:=o) (r:=r) O al);have ax:=hid (show Zb2 R (200-f) k s=(Zba R k o s).bind fun r=>Zb2 R (200-(f+1)) r.2 r.1 by
      rw[show 200-f=(200-(f+1))+1 by omega,ZfA x,L.out,Kb])
     clear aq o0 o1 ap O;cases y:Zba R k o s with
     |none=>
      have bb:=hid y;clear y;have Hn:=hid (show i=none by (rw[←Hh.out,ax.out,bb.out];rfl));replace hG:=F.keep m G;replace bR1:=D.keep m H;replace bR2:=E.keep m J
      skip
      exact FE
     |some r=>
      have Hn:=hid (show Zb2 R (200-(f+1)) r.2 r.1=i by rw[←Hh.out,ax.out,y,Kb]);obtain ⟨s9,k9,bo⟩:=aw.out r y;obtain ⟨W9,b9⟩:=av.out r y;clear y av aw;go_wp2;go_roundw;case rel=>exact ⟨m,f+1,r.2,r.1,I,Δ,W9,s9,b9,k9,Hn.out⟩
      case measure=>exact FN
  ·have Hn:=hid (show i=some s by rw[←Hh.out];exact ZgG x);have bc:=F.keep hK G;have bd:=D.keep hK H;have be:=E.keep hK J;have bp:g≠w.heap.size+1/\g≠w.heap.size+1+1:=⟨by have:=v.lg;omega,by have:=v.lg;omega⟩;have fA': ∀ q,blk aa=some q->w.heap.size+1+1<q:=fun q hq=>(by have:=v.la q hq;omega);have fU': ∀ q,blk au=some q->w.heap.size+1+1<q:=fun q hq=>(by have:=v.lu q hq;omega);have c3:=v.wk.cell 3;have c4:=v.wk.cell 4;have c5:=v.wk.cell 5;simp only[WkC,List.getElem?_toArray,List.getElem?_cons_zero,List.getElem?_cons_succ] at c3 c4 c5;go_wp2;refine Zcr (fun q=>q≠w.heap.size+1/\q≠w.heap.size+1+1) [([0,1,2,3,4,5,6,7],some 8),([],some 9),([10],none)] ?_;refine Zh ?_;obtain ⟨w8,hw8⟩:=eX wr.drew;rw[←hw8];have d:Grow wr w8:=Ct;clear hw8;have ay:=bd.grow d;have bf:=be.grow d;refine Zu rfl (fun K hK=> ?_);obtain ⟨⟨a0,a1,a2⟩,f0,f1,f2⟩:=ay.three;go_wp2_with fail;have b:Keep (fun q=>q≠w.heap.size+1) w8 (((w8.setCell ⟨w.heap.size+1,0,none⟩ (Yv Yi (R:Int))).setCell ⟨w.heap.size+1,1,none⟩ (Yv Yi (R:Int))).setCell ⟨w.heap.size+1,2,none⟩ (.slice aa (R*R) ca)):=
    kS
   have bg:=((ay.set 0 (Yv Yi (R:Int))).set 1 (Yv Yi (R:Int))).set 2 (.slice aa (R*R) ca);have az:=bf.keep b I;refine hK _ _ (((d.mono fun _ _ _=>trivial).trans (b.mono fun q _ hb=>hb.1))) ?_;clear hK K;generalize (((w8.setCell ⟨w.heap.size+1,0,none⟩ (Yv Yi (R:Int))).setCell ⟨w.heap.size+1,1,none⟩ (Yv Yi (R:Int))).setCell ⟨w.heap.size+1,2,none⟩ (.slice aa (R*R) ca))=w9 at *;clear a0 a1 a2 f0 f1 f2;refine Zh ?_;refine Zu rfl (fun K hK=> ?_);obtain ⟨⟨b0,b1,b2⟩,g0,g1,g2⟩:=az.three;go_wp2_with fail;have l:Keep (fun q=>q≠w.heap.size+1+1) w9 (((w9.setCell ⟨w.heap.size+1+1,0,none⟩ (Yv Yi (R:Int))).setCell ⟨w.heap.size+1+1,1,none⟩ (Yv Yi (R:Int))).setCell ⟨w.heap.size+1+1,2,none⟩ (.slice au (R*R) cu)):=
    kS
   have bh:=((az.set 0 (Yv Yi (R:Int))).set 1 (Yv Yi (R:Int))).set 2 (.slice au (R*R) cu);have bi:=bg.keep l I;refine hK _ _ ((((d.mono fun _ _ _=>trivial).trans (b.mono fun q _ hb=>hb.1)).trans (l.mono fun q _ hb=>hb.2))) ?_;clear hK K;refine Zh ?_;refine Ze ?_;have bj:=((bc.trans d).keep b (fun q hq=>I)).keep l (fun q hq=>I);have bk:=((v.th.oa.grow d).keep b (fun q hq _ e=>σ)).keep l (fun q hq _ e=>σ);have bl:=((v.th.ou.grow d).keep b (fun q hq _ e=>Ac)).keep l (fun q hq _ e=>Ac);go_wp2;exact Zv Zc Zc rfl rfl rfl rfl bi bh ⟨bj, .inr ⟨s,aa,ca,au,cu,Hn.out,rfl,bk.rdI (fun q hq=>σ) (Zp O.na),bl.rdI (fun q hq=>Ac) (Zp O.nu)⟩⟩
theorem ZvK (h:VM w S v m) (hb:bdM m<=1048576):
  Calls JG 272 #[v] w fun e w'=> ∃ x1 x2 x3 x4 x5 y1 y2 y3 y4 y5,e= .returned (.tuple #[.agg #[Yv Yi x1,Yv Yi x2, .slice x3 x4 x5], .agg #[Yv Yi y1,Yv Yi y2, .slice y3 y4 y5], .bool (ZbC m).isSome])/\(∀ s,ZbC m=some s->y1=m.rows/\y2=m.rows/\RdI w' (fun _=>True) y3 y4 y5 s.2.1)/\Grow w w':=by
 have k:=h;obtain ⟨a,n,c,rfl,h,p,q⟩:=h;cases g:ZbL m with
 |false=>
  refine (Ztq k hb g).mono ?_;rintro e w' ⟨rfl,hG⟩;have hn:ZbC m=none:=by unfold ZbC;rw[g];rfl
  exact GI
 |true=>
  obtain ⟨R,d,f,l,j,b⟩:=ZgP g;obtain ⟨r,t,i⟩:=m;simp only at d f j b h;subst d;subst f;refine (Zrp h j b l g).mono ?_;rintro e w' ⟨hG,o⟩;rcases o with ⟨hn,rfl⟩|⟨s,x,y,z,A,hn,rfl,B,h2⟩
  ·exact GI
  ·exact Iu
theorem ZkD (h:ZaO b=true):(ZaD b).rows=b.rows:=by
 unfold ZaO at h;rw[JQ] at h;unfold ZaD;rw[if_pos h.1];have h2:=h.2;unfold ZC at h2;unfold Zq;split
 ·rename_i a;rw[a] at h2;unfold okM;rw[if_pos Cd];rfl
 ·rename_i a;simp[a] at h2
theorem Zf4 (A B:Mat):bdM (Zq A B)<=1048576:=by
 unfold Zq;by_cases a:Zaj A B=true
 ·rw[if_pos a];have:=Zjd a;unfold okM;split
  ·omega
  ·simp[bdM]
 ·rw[if_neg a];simp[bdM]
theorem Zkk (b:Mat):bdM (ZaD b)<=1048576:=by
 unfold ZaD;split
 ·exact Zf4 _ _
 ·simp[bdM]
theorem Zn3 (h:ZbC m=some s): ∃ R:Nat,m.rows=R/\R<=6/\Ss R R s:=by
 unfold ZbC at h;split at h
 ·rename_i p;obtain ⟨R,b,q,t,v,c⟩:=ZgP p;refine ⟨R,b,t, ?_⟩;rw[b,Int.toNat_natCast] at h;have g:Ss R R (m.cells,idL R,idL R):=⟨v,Zbl R,Zbl R,c,Zbi R,Zbi R⟩;have i: ∀ f k (S:SS),Ss R R S->1<=k->Zb2 R f k S=some s->Ss R R s:=by
   intro f;induction f with
   |zero=>
    intro k S e _ a;by_cases d:k<R
    ·rw[Zgc d] at a;cases a
    ·rw[ZgG d] at a;rw[←JJ a];exact e
   |succ f w=>
    intro k S e j a;by_cases d:k<R
    ·rw[ZfA d] at a;cases n:Zas S.1 R R with
     |none=>rw[n] at a;cases a
     |some o=>
      rw[n,Kb] at a;cases l:Zba R k o S with
      |none=>rw[l] at a;cases a
      |some r=>rw[l,Kb] at a;obtain ⟨x,y,z⟩:=Zp3 e j l;exact w r.2 r.1 x y a
    ·rw[ZgG d] at a;rw[←JJ a];exact e
  exact i 200 1 _ g (Nat.le_refl _) h
 ·cases h
theorem ZpJ (h:ZiZ b=none):ZbH b=false/\Zbe b={rows:=0,cols:=0,cells:=[]}:=by
 unfold ZbH Zbe;rw[h];exact Je
theorem Zos {u:Mat} (h:ZiZ b=some u):ZbH b=ZC u b/\Zbe b=if ZC u b then Zq u b else {rows:=0,cols:=0,cells:=[]}:=by
 unfold ZbH Zbe;rw[h];exact Je
theorem ZvI (h:VM w S v m) (hb:bdM m<=1048576):
  Calls JG 222 #[v] w fun e w'=> ∃ r y1 y2 y3 y4 y5,e= .returned (.tuple #[r, .agg #[Yv Yi y1,Yv Yi y2, .slice y3 y4 y5], .bool (ZbH m)])/\OM w' (New w w') r (Zbe m)/\Grow w w':=by
 have l:=h;obtain ⟨a,n,c,rfl,h,ir,ic⟩:=h;obtain ⟨mr,o⟩:=eX m.rows;obtain ⟨mc,C⟩:=eX m.cols;rw[←o, ←C] at l ⊢;obtain ⟨w3,D,hG,B,bR1,bR2, -⟩:=al3 w #[Yv Yi mr,Yv Yi mc, .slice a n c] 37 #[Yv Yi 0,Yv Yi 0, .slice none 0 0] 37 #[Yv Yi 0,Yv Yi 0, .slice none 0 0] 37;have E:=hid D;clear D;have ad:=hid o;have p:=hid (fun h=>ZpJ (b:=m) h);have i:=hid (fun u h=>Zos (b:=m) (u:=u) h);have HU:=hid (show ZiZ m=if ZaO m then (ZbC (ZaD m)).map fun S=>{rows:=m.rows,cols:=m.rows,cells:=S.2.1} else none from rfl);have t:=hid (fun h=>ZkD (b:=m) h);clear h ir ic o C;go_enter Tryz.func222,Tryz.ntmps222;go_wp2_with fail;rw[←E.out];refine (ZlO (l.grow hG) hb).mono ?_;rintro e w4 ⟨rv,rfl,⟨V,W,X,rfl,Y,Z,fG,i1,i2⟩,f⟩;have F:=Zkk m;obtain ⟨j,G⟩:=eX (ZaD m);rw[←G] at Y Z i1 i2 F HU t ⊢;clear G;obtain ⟨w5,H,hGa,bG, -⟩:=al1 w4 #[Yv Yi j.rows,Yv Yi j.cols, .slice V W X] 37;have y:=hid H;clear H;replace B:=(B.grow f).grow hGa;replace bR1:=(bR1.grow f).grow hGa;replace bR2:=(bR2.grow f).grow hGa;replace l:=((l.grow hG).grow f).grow hGa;have vG:VM w5 (fun _=>True) (.agg #[Yv Yi j.rows,Yv Yi j.cols, .slice V W X]) j:=⟨V,W,X,rfl,(Y.grow hGa).rdI (fun _ _=>trivial) Z,i1,i2⟩;replace hG:=(hG.trans f).trans hGa;have ab:=bR2.lt;clear f hGa Y Z fG i1 i2 E;cases hgo:ZaO m with
 |false=>
  have Hn:=hid (p.out ED);clear hgo;rw[y.out] at bR1 bR2 hG;have h1:w.heap.size<=w.heap.size+1:=I
  have h2:w.heap.size<=w.heap.size+1+1:=I
  have n12:w.heap.size+1≠w.heap.size+1+1:=I
  exact FM
 |true=>
  have Hg1:=hid (t.out hgo);replace HU:=hid (show ZiZ m=(ZbC j).map fun S=>{rows:=m.rows,cols:=m.rows,cells:=S.2.1} by rw[HU.out,hgo];rfl);have d:=fun s=>Zn3 (m:=j) (s:=s);clear hgo t;obtain ⟨⟨q0,q1,q2⟩, -⟩:=bG.three;have k:=bG.lt;rw[y.out] at q0 q1 q2 k;go_wp2_with fail;rw[←y.out];refine (ZvK vG F).mono ?_;rintro e w6 ⟨x1,x2,x3,x4,x5,y1,y2,y3,y4,y5,rfl,T,g⟩;obtain ⟨w7,J,hGa, -,bU, -⟩:=al2 w6 #[Yv Yi x1,Yv Yi x2, .slice x3 x4 x5] 37 #[Yv Yi y1,Yv Yi y2, .slice y3 y4 y5] 37;have z:=hid J;have aa:w.heap.size+1+1<w6.heap.size:=by have:=g.size;omega
  clear J q0 q1 q2 k;replace B:=(B.grow g).grow hGa;replace bR1:=(bR1.grow g).grow hGa;replace bR2:=(bR2.grow g).grow hGa;replace l:=(l.grow g).grow hGa;replace hG:=(hG.trans g).trans hGa;obtain ⟨rg,L⟩:=eX (ZbC j);rw[←L] at HU T d ⊢;clear L;cases rg with
  |none=>
   have Hn:=hid (p.out (by rw[HU.out];rfl));clear T d;rw[z.out] at bR1 bR2 hG;have h1:w.heap.size<=w.heap.size+1:=I;have h2:w.heap.size<=w.heap.size+1+1:=I;have n12:w.heap.size+1≠w.heap.size+1+1:=I;exact FM
  |some s=>
   obtain ⟨M,N,ry⟩:=T s rfl;obtain ⟨R,hR1,hR2,hs⟩:=d s rfl;have A:=HU.out;rw[Option.map_some] at A;have Hy:=hid (i.out _ A);have hyr:y1=m.rows:=(by rw[M,Hg1.out]);have hyr2:y2=m.rows:=(by rw[N,Hg1.out]);have vU:VM w7 (fun _=>True) (.agg #[Yv Yi y1,Yv Yi y2, .slice y3 y4 y5]) {rows:=m.rows,cols:=m.rows,cells:=s.2.1}:=Bb;have O:bdM {rows:=m.rows,cols:=m.rows,cells:=s.2.1}<=2097152:=BH;obtain ⟨um,P⟩: ∃ x:Mat,x={rows:=m.rows,cols:=m.rows,cells:=s.2.1}:=⟨_,rfl⟩;rw[←P] at Hy vU O;clear P A HU p i T d hs ry M N hyr hyr2 hR1 hR2 Hg1;obtain ⟨⟨q0,q1,q2⟩, -⟩:=bU.three;have hltU:=bU.lt;obtain ⟨⟨m0,m1,m2⟩, -⟩:=B.three;have hltM:=B.lt;rw[z.out] at q0 q1 q2 hltU m0 m1 m2 hltM;go_wp2_with fail;rw[←z.out];refine (Zdu vU l O I).mono ?_;exact FH

end Go.Proofs.YtgjefeiddfjjnaaGreatDoor
