/- SetDef: the reference's. -/
import Derived.Test.YtgjefeiddfjjnaaGreatDoorZSheet
import Derived.Test.YtgjefeiddfjjnaaGreatDoorZDraw
import Derived.Test.YtgjefeiddfjjnaaGreatDoorZRatI
import Derived.Test.YtgjefeiddfjjnaaGreatDoorZFind
import Derived.Test.YtgjefeiddfjjnaaGreatDoorZNorm
import Derived.Test.YtgjefeiddfjjnaaGreatDoorZEchI
import Derived.Test.YtgjefeiddfjjnaaGreatDoorZFacI
set_option maxHeartbeats 8000000
set_option maxRecDepth 100000
namespace Go.Proofs.YtgjefeiddfjjnaaGreatDoor
open Go.RowKit
open Lib (hid)
open Int renaming mul_add->Nn,mul_assoc->Np,mul_eq_zero->MN,mul_left_comm->PB,mul_tdiv_cancel'->Ob,mul_zero->Mf,sub_zero->Oc,toNat_natCast->K4
open Lib renaming itoa->JK,itoa_length_le->MI
open List renaming mem_cons->JU,mem_of_getElem?->JX
open Nat renaming le_refl->JM,mul_one->Ld,zero_le->JI
open Option.some renaming inj->JJ
open Go.Proofs.Tryz
variable {C R c cap i k n t:Nat} {D:List Dfn} {L:List UInt8} {P:List (List Dfn)} {S:Nat->Prop} {a:Option Addr} {m xs:List Int} {ok:Bool} {rb:Option Mat} {v:Value} {w:World}
theorem ZnJ (d:Dfn): ∀ (l:List Dfn) (i:Nat),ZcI (l.set i d)<=ZcI l+bdD d
 |[],_=>Θ
 |x::l,0=>Ψ
 |x::l,i+1=>by have:=ZnJ d l i;simp;omega
theorem Zr7 (l:List Dfn) (d:Dfn):ZaE (ZaJ l d)<=ZaE l+bdD d+1:=by
 have a:=Zpg l d;have b:ZcI (ZaJ l d)<=ZcI l+bdD d:=by
  unfold ZaJ;split
  ·exact ZnJ d l _
  ·rw[ZgS];simp
 unfold ZaE;omega
theorem Keep.low {T:Nat->Prop} {w1 w2:World} (h:Keep S w w1) (k:Keep T w1 w2) (hT: ∀ q,q<w.heap.size->S q->T q):Keep S w w2:=by
 have c:=(h.mono (T:=fun q=>S q/\q<w.heap.size) fun q _ a=>a.1).trans (k.mono (T:=fun q=>S q/\q<w.heap.size) fun q _ a=>hT q a.2 a.1);exact c.mono fun q b a=>⟨a,b⟩
theorem ZmS (h:VSes w S v D P) (hb:ZaE D<=1048576) (hbP: ∀ p∈P,ZaE p<=1048576) (hn:P.length<=1048576):
  Calls prog 22 #[v] w fun e w'=> ∃ da dn dc pa pn pc,e= .returned (.agg #[.slice da dn dc, .slice pa pn pc])/\RdD w' (fun q=>w.heap.size<=q) da dn dc D/\OwP w' (fun q=>w.heap.size<=q) pa pn pc P/\Grow w w':=by
 obtain ⟨xa,H,xc,pa,n,pc,rfl,hD,hP⟩:=h;have ax:=hP.len;obtain ⟨w1,M,N,bX,bZ, -⟩:=al2 w #[.slice xa H xc, .slice pa n pc] 32 #[.slice none 0 0, .slice none 0 0] 32;obtain ⟨⟨x0,x1⟩, -⟩:=bX.two;have r:=bX.lt;rw[M] at x0 x1 r;have ay:=hid M;have az:=hid hbP;clear M hbP;go_enter func22,ntmps22;go_wp2_with fail;rw[←ay.out];refine (ZeD xa H xc D _ (hD.grow N) hb).mono ?_;rintro e s ⟨Z,yc,rfl,hY,t⟩;clear x0 x1 r;have z:=bX.grow t;have aa:=bZ.grow t;have bf:=bZ.lt;have J:=N.trans t;have ab:=hY.rdD (S:=fun q=>w1.heap.size<=q/\q<s.heap.size) fun q g=>g;obtain ⟨w3,O,d,bO, -⟩:=al1 s #[.slice Z H yc, .slice none 0 0] 32;obtain ⟨⟨x0,x1⟩, -⟩:=(z.grow d).two;have r:=(z.grow d).lt;rw[O] at x0 x1 r;have a0:=hid O;have ad:=ab.grow d;have bg:=z.grow d;have ae:=aa.grow d;have af:=J.trans d;have bh:=t.size;have bi:=bO.lt;clear O hY ab bX z bZ aa hD N t d J;go_wp2;rw[←a0.out];clear x0 x1 r;go_loopw [5,13] (fun _ i wr=>Grow w wr/\w3.heap.size<=wr.heap.size/\ ∃ (k c1:Nat) (y:Option Addr),k<=n/\i= .int .i64 k/\Blk wr s.heap.size #[.slice Z H yc, .slice y k c1] 32/\OwP wr (fun q=>s.heap.size<q) y k c1 (P.take k)/\Blk wr (w.heap.size+1) #[.slice none 0 0, .slice none 0 0] 32/\RdD wr (fun q=>w1.heap.size<=q/\q<s.heap.size) Z H yc D) (fun _ i _=>n-(intOf i).toNat);case atStart=>exact ⟨af,JM _,0,0,none,JI _,rfl,bO,OwP.nilw,ae,ad⟩
 case round=>
  obtain ⟨hG,bj,k,c1,y,hk,rfl,l,hO,x,A⟩:=hrel;clear bO ae ad;by_cases a2:k<n
  ·obtain ⟨b,bk,p,pb,m,a3,rfl,hp,_,bl,e0,R⟩:=(hP.grow hG).at a2;have ag:=az.out p (JX hp);obtain ⟨⟨ss,a4,V,hC⟩,a5,c⟩:=hO;have nO:blk y≠some s.heap.size:=fun e=>(by have:=c _ e;omega);have nZ:blk y≠some (w.heap.size+1):=fun e=>(by have:=c _ e;omega);obtain ⟨⟨o0,o1⟩, -⟩:=l.two;have L:=l.lt;have Hp:=hid hp;have a6:=R.len;have hm:m<=1048576:=(by unfold ZaE at ag;omega);clear hp a6;go_wp2;refine Zk2 7 (fun q=>blk y≠some q) [([0,1,2],some 3),([],some 4),([],some 5),([6],some 7)] ?_;refine Zh ?_;obtain ⟨wd,hwd⟩:=eX wr.drew;rw[←hwd];have C:Grow wr wd:=Ed;clear hwd;refine ZY rfl (fun K hK=> ?_);go_wp2_with fail;refine (ZeD pb m a3 p _ (R.grow C) ag).mono ?_;rintro e w5 ⟨qa,qc,rfl,hQ,ah⟩;have W:=C.trans ah;go_wp2_with fail;refine hK _ _ ((fun _=>W.any)) ?_;clear hK K;refine Zct ?_;intro K hK;have o:Grow wr (w5.alloc (.cells #[.slice qa m qc] 26)):=W.alloc _ _;refine hK _ _ ((fun _=>o.any)) ?_;clear hK K;refine Zh ?_;refine ZY rfl (fun K hK=> ?_);have ai:=V.grow o;have bm:=C.size;have aj:=(hQ.rdD (S:=fun q=>s.heap.size<q/\blk y≠some q) fun q g=>⟨by have:=g.1;omega,fun e=>by have:=V.lt e;have:=g.1;omega⟩).grow ((Grow.refl w5).alloc #[.slice qa m qc] 26);refine ZkM rfl Zp4 rfl ai rfl (Row.built (S:=fun _=>True) 1 Γ rfl trivial) γ I Γ ?_;intro a9 c9 w9 X;have f:Keep (fun q=>blk y≠some q) wr w9:=o.any.trans X.keep;have a7:=o.size;have O9:=OwP.app (B:=wr.heap.size) (F:=fun q=>s.heap.size<q) a4 (hC.keep o fun _ _ _=>trivial) c aj a5 (fun q g=>I) a7 X;rw[←ZH Hp.out] at O9;refine hK _ _ (fun _=>f) ?_;clear hK K;refine Zh ?_;refine ZY rfl (fun K hK=> ?_);have E:=l.keep f nO;have ak:=x.keep f nZ;have al:=A.keep f fun q _ g e=>(by have:=c q e;omega);have am:=hG.keep f fun q g e=>(by have:=c q e;omega);have bn:=f.size;obtain ⟨⟨-,f1⟩, -,a8⟩:=E.two;have Y:=E.lt;obtain ⟨an,j⟩:=eX (w9.setCell ⟨s.heap.size,1,none⟩ (.slice a9 (k+1) c9));have a:Keep (fun q=>q≠s.heap.size) w9 an:=(by rw[j];exact kS);have ao:Blk an s.heap.size #[.slice Z H yc, .slice a9 (k+1) c9] 32:=(by rw[j];exact E.set 1 _);have ap:=ak.keep a I;have aq:=al.keep a fun q _ g=>I;have ba:=O9.keep a fun q _ g=>I;have ar:=am.keep a fun q g=>I;have bd:=a.size;have av:=hid j;clear j f a E ak al O9 am ai aj hQ X hC V o W ah C l x A hG e0 R o0 o1 L hP;go_wp2_with fail;refine hK _ _ ((fun h=>(h rfl).elim)) ?_;clear hK K;refine Z8 ?_;rw[←av.out];clear f1 a8 Y;go_wp2;go_roundw;case rel=>exact ⟨ar,I,k+1,c9,a9,I,Δ,ao,ba,ap,aq⟩
   case measure=>exact FN
  ·obtain rfl:k=n:=I;rw[Z5 ax] at hO;obtain ⟨⟨o0,o1⟩, -⟩:=l.two;obtain ⟨⟨z0,z1⟩,bo,bp⟩:=x.two;have L:=l.lt;have be:=x.lt;have aw:w.heap.size<=w.heap.size+1:=I;have hK:Keep (fun q=>q≠w.heap.size+1) wr ((wr.setCell ⟨w.heap.size+1,0,none⟩ (.slice Z H yc)).setCell ⟨w.heap.size+1,1,none⟩ (.slice y k c1)):=kS;have bb:=(A.keep hK fun q _ g=>I).weak (T:=fun q=>w.heap.size<=q) fun q _ g=>I;have bc:=(hO.keep hK fun q _ g=>I).weak (G:=fun q=>w.heap.size<=q) fun q _ g=>I;clear A hO hK hP;go_wp2;exact Zx Zby rfl rfl rfl ((x.set 0 _).set 1 _) ⟨Z,H,yc,y,k,c1,rfl,bb,bc,(hG.setCell aw _).setCell aw _⟩
theorem SepR.at {F:Nat->Prop} {l:List Rs} (h:SepR w F a n cap l) (hk:k<n):
  ∃ b off r a1 c1,a=some ⟨b,off,none⟩/\l[k]? =some r/\b<w.heap.size/\RAt w b (off+k*4) r (.slice a1 (rsM r).cells.length c1)/\Own w 3 1 a1 (rsM r).cells.length c1 (ints (rsM r).cells)/\(∀ x∈(rsM r).cells,I64 x)/\(∀ g,blk a1=some g->F g)/\ROk r:=by
 obtain ⟨⟨z,i,m⟩,A,o, -⟩:=h;have d:k<l.length:=I
 have hk':l[k]? =some l[k]:=List.getElem?_eq_getElem d;obtain ⟨a1,c1,h3,p,q,s⟩:=m.each _ _ (Zcs hk');obtain ⟨b,off,t, -,hc⟩:=(i.row (S:=fun _=>True) fun _ _=>trivial).addr (by
  intro e;have:=Zel (j:=0) hk' h3 I;rw[e] at this;simp[ZcX] at this)
 have c: ∀ j v,j<4->(ZcX l[k] (.slice a1 (rsM l[k]).cells.length c1))[j]? =some v->w.cell? ⟨b,off+k*4+j,none⟩=some v:=fun j v hj hv=>Ew
 have f:=c 0 _ I rfl;exact ⟨b,off,l[k],a1,c1,t,hk',World.block_lt_of_cell? w _ f,⟨f,c 1 _ I rfl,c 2 _ I rfl,c 3 _ I rfl⟩,p,q,fun g y=>(s g y).1,o _ (List.getElem_mem d)⟩
def ZhC (D:List Dfn) (name:ByteArray):Option Mat:=if Zn D name<0 then none else ((Zaq D)[(Zn D name).toNat]?).bind fun r=>if r.isSome=true then some (rsM r) else none
theorem ZhK {name:ByteArray} (h:VSes w S v D P) (hb:D.length<=1048576) (hcl: ∀ d∈D,d.value.cells.length<=2097152):
  Calls prog 27 #[v, .string name] w fun e w'=> ∃ a n c, ∃ m:Mat, ∃ ok,e= .returned (.tuple #[.agg #[.int .i64 m.rows, .int .i64 m.cols, .slice a n c], .bool ok])/\Own w' 3 1 a n c (ints m.cells)/\(∀ x∈m.cells,I64 x)/\I64 m.rows/\I64 m.cols/\m.cells.length<=1048576/\Grow w w'/\ZhC D name=if ok=true then some m else none:=by
 obtain ⟨xa,xn,xc,pa,n,pc,rfl,s, -⟩:=h;obtain ⟨B,t⟩:=eX (ZhC D name);rw[←t];have C:=hid t;clear t;have ae:=s.len;obtain ⟨w1,y,z,A,g, -⟩:=al2 w #[.slice xa xn xc, .slice pa n pc] 32 #[.int .i64 0, .int .i64 0, .slice none 0 0] 37;have af:=g.lt;obtain ⟨⟨G,H⟩, -⟩:=A.two;have i:=A.lt;rw[y] at G H i;have M:=hid y;have N:=hid hcl;replace s:=s.grow z;clear y hcl;go_enter func27,ntmps27;go_wp2_with fail;rw[←M.out];refine (ZvB s I N.out).mono ?_;rintro e w2 ⟨ea,ec,rfl,hE,f,E⟩;clear G H i;replace A:=A.grow f;replace g:=g.grow f;replace s:=s.grow f;replace z:=z.trans f;have j:=hE;have O:=hid E;obtain ⟨⟨G,H⟩, -⟩:=A.two;have i:=A.lt;clear hE E f;go_wp2_with fail;refine (Zd0 _ _ _ D name _ s I).mono ?_;rintro e w3 ⟨rfl,k⟩;replace g:=g.grow k;replace z:=z.trans k;replace j:=j.grow k;clear G H i A s k;have b:w.heap.size<=w.heap.size+1:=I
 obtain ⟨⟨z0,z1,z2⟩,ag,ah,ai⟩:=g.three;have ad:=g.lt;obtain ⟨L,R⟩:=eX ((Zaq D).length);rw[←R] at j ⊢;have HL:=hid R;clear R;by_cases F:Zn D name<0
 case' pos=>have q1:decide (Zn D name<0)=true:=decide_eq_true F;have T:=hid (show B=none by rw[C.out];unfold ZhC;rw[if_pos F]);clear F;generalize Zn D name=aj at *
 case' neg=>
  obtain ⟨p,V⟩: ∃ p:Nat,Zn D name=p:=⟨(Zn D name).toNat,I⟩;have l:=hid (show B=((Zaq D)[p]?).bind fun r=>if r.isSome=true then some (rsM r) else none by rw[C.out];unfold ZhC;rw[if_neg F,V,K4]);rw[V];clear V F;by_cases h1:p<L
  case' pos=>
   obtain ⟨b1,o1,r,ra,rc,rfl,W,ak,⟨y0,y1,y2,y3⟩,rI,rg,rF,X⟩:=j.at h1;have Y:=(O.out _ (JX W));have Z:I64 (rsM r).rows:=X.1;have aa:I64 (rsM r).cols:=X.2;have o:=hid (show B=if r.isSome=true then some (rsM r) else none by rw[l.out,W];rfl);clear W X l;generalize rsM r=m at *;cases J:r.isSome
   case' true=>rw[J] at y3;have ab:=hid (show B=some m by rw[o.out,J];rfl);clear o;go_wp2;have hK:Keep (fun q=>q≠w.heap.size+1) w3 (((w3.setCell ⟨w.heap.size+1,0,none⟩ (.int .i64 m.rows)).setCell ⟨w.heap.size+1,1,none⟩ (.int .i64 m.cols)).setCell ⟨w.heap.size+1,2,none⟩ (.slice ra m.cells.length rc)):=kS;exact Zb Zc rfl rfl rfl (((g.set 0 _).set 1 _).set 2 _) ⟨ra,m.cells.length,rc,m,true,rfl,rI.keep hK (fun q hq _ e=>by have:=rF q hq;omega),rg,Z,aa,Y,((z.setCell b _).setCell b _).setCell b _,ab.out⟩
   case' false=>rw[J] at y3;have T:=hid (show B=none by rw[o.out,J];rfl);clear o
  case' neg=>have T:=hid (show B=none by rw[l.out,List.getElem?_eq_none (by rw[←HL.out];omega)];rfl);clear l
 all_goals go_wp2;exact Zb Zc rfl rfl rfl (((g.set 0 _).set 1 _).set 2 _) ⟨none,0,0,rsZ,false,rfl,Own.nilw,(fun x hx=>by simp[rsZ] at hx),by unfold rsZ I64;simp,by unfold rsZ I64;simp,by simp[rsZ],((z.setCell b _).setCell b _).setCell b _,T.out⟩
def Zco (m:List Int) (C i:Nat) (x:Nat->Int):Nat->Int
 |0=>0
 |n+1=>Zco m C i x n+cell m C i n*x n
def ZdU (m:List Int) (C R:Nat) (x:Nat->Int):Prop:= ∀ i,i<R->Zco m C i x C=0
theorem ZbK {m m':List Int} {C i i':Nat} {x:Nat->Int}: ∀ {n:Nat},(∀ k,k<n->cell m C i k=cell m' C i' k)->Zco m C i x n=Zco m' C i' x n
 |0,_=>rfl
 |n+1,h=>by simp only[Zco];rw[ZbK (fun k hk=>h k I),h n I]
theorem Zh7 {m m':List Int} {C i i':Nat} {d:Int} {x:Nat->Int}: ∀ {n:Nat},(∀ k,k<n->cell m C i k=d*cell m' C i' k)->Zco m C i x n=d*Zco m' C i' x n
 |0,_=>by simp[Zco]
 |n+1,h=>by simp only[Zco];rw[Zh7 (fun k hk=>h k I),h n I,Nn,Np]
theorem Zj9 {m m':List Int} {C i i' t:Nat} {a b:Int} {x:Nat->Int}: ∀ {n:Nat},(∀ k,k<n->cell m' C i' k=a*cell m C i k-b*cell m C t k)->Zco m' C i' x n=a*Zco m C i x n-b*Zco m C t x n
 |0,_=>by simp[Zco]
 |n+1,h=>by simp only[Zco];rw[Zj9 (fun k hk=>h k I),h n I,Nn,Nn,Int.sub_mul,Np,Np];omega
theorem ZjW {m:List Int} {C i:Nat}: ∀ {n k:Nat},k<n->((Zbb m C i n:Nat):Int)∣cell m C i k
 |0,_,h=>I
 |n+1,k,h=>by
  simp only[Zbb];by_cases e:k=n
  ·subst e;exact Int.ofNat_dvd_left.2 (Nat.gcd_dvd_right _ _)
  ·exact Int.dvd_trans (Int.natCast_dvd_natCast.2 (Nat.gcd_dvd_left _ _)) (ZjW I)
theorem ZrH (hk:k<C):ZcT m C i∣cell m C i k:=by
 unfold ZcT;split
 ·exact ZjW hk
 ·exact Int.neg_dvd.2 (ZjW hk)
theorem Zui (h:Zbb m C i C≠0):ZcT m C i≠0:=by
 unfold ZcT;split<;>omega
theorem ZrB (hk:k<C):cell m C i k=ZcT m C i*Za0 m C i k:=by
 unfold Za0;rw[Ob (ZrH hk)]
theorem ZmJ (hl:m.length=R*C) (hi:i<R): ∃ d:Int,d≠0/\(∀ k,k<C->cell m C i k=d*cell (Zb8 m C i) C i k)/\ ∀ i' k,k<C->i'≠i->cell (Zb8 m C i) C i' k=cell m C i' k:=by
 unfold Zb8;by_cases b:Zbb m C i C=0
 ·rw[if_pos b];exact ⟨1,Φ,fun k _=>I,fun _ _ _ _=>rfl⟩
 ·rw[if_neg b];refine ⟨ZcT m C i,Zui b,fun k a=> ?_,fun i' k a c=> ?_⟩
  ·rw[Zgq hl hi a,if_pos rfl];exact ZrB a
  ·rw[Zgq hl hi a,if_neg c]
theorem Zmx {m':List Int} {d:Int} (hd:d≠0) (h1: ∀ k,k<C->cell m C i k=d*cell m' C i k) (h2: ∀ i' k,k<C->i'≠i->cell m' C i' k=cell m C i' k) (x:Nat->Int):ZdU m C R x↔ZdU m' C R x:=by
 constructor
 ·intro h i' a;by_cases e:i'=i
  ·subst e;have b:=h i' a;rw[Zh7 h1] at b;rcases MN.1 b with b|b
   ·exact (hd b).elim
   ·exact b
  ·rw[ZbK (fun k c=>h2 i' k c e)];exact h i' a
 ·intro h i' a;by_cases e:i'=i
  ·subst e;rw[Zh7 h1,h i' a,Mf]
  ·rw[ZbK (fun k c=>(h2 i' k c e).symm)];exact h i' a
theorem ZjB {m:List Int} {C R:Nat} (hl:m.length=R*C) (x:Nat->Int): ∀ {n:Nat},n<=R->(ZdU m C R x↔ZdU (Za8 m C n) C R x)
 |0,_=>Iff.rfl
 |n+1,h=>by simp only[Za8];obtain ⟨d,hd,h1,h2⟩:=ZmJ (m:=Za8 m C n) (C:=C) (R:=R) (i:=n) (by rw[Zfn];exact hl) h;exact (ZjB hl x I).trans (Zmx hd h1 h2 x)
theorem ZqA {j:Nat} (hl:m.length=R*C) (hi:i<R) (ht:t<R) (hne:i≠t) (hj:j<C) (hc:cell m C t j≠0):
  (∀ x,ZdU m C R x↔ZdU (Zdj m C i t j) C R x)/\cell (Zdj m C i t j) C i j=0/\(∀ i' k,k<C->i'≠i->cell (Zdj m C i t j) C i' k=cell m C i' k)/\ ∀ k,k<C->cell m C t k=0->(cell (Zdj m C i t j) C i k=0↔cell m C i k=0):=by
 have O:elG m C i t j≠0:=by unfold elG gI Int.gcd;have:=Nat.gcd_pos_of_pos_right (cell m C i j).natAbs (show 0<(cell m C t j).natAbs by omega);omega
 have z:elG m C i t j∣cell m C t j:=by unfold elG gI;exact Int.gcd_dvd_right _ _
 have A:elG m C i t j∣cell m C i j:=by unfold elG gI;exact Int.gcd_dvd_left _ _
 obtain ⟨s,w⟩:=eX ((cell m C t j).tdiv (elG m C i t j));obtain ⟨v,y⟩:=eX ((cell m C i j).tdiv (elG m C i t j));have p:elG m C i t j*s=cell m C t j:=by rw[w];exact Ob z
 have B:elG m C i t j*v=cell m C i j:=by rw[y];exact Ob A
 have l:s≠0:=fun e=>by rw[e,Mf] at p;exact hc p.symm
 obtain ⟨q,r⟩:=eX (Zz (elW m C i t j) (i*C) C m);have D:q.length=R*C:=by rw[r,ZM];exact hl
 have n: ∀ i' k,k<C->cell q C i' k=if i'=i then s*cell m C i k-v*cell m C t k else cell m C i' k:=fun i' k c=>by
  rw[r,Zgq hl hi c];split
  ·unfold elW;rw[←w, ←y]
  ·rfl
 obtain ⟨d,F,G,H⟩:=ZmJ (m:=q) (C:=C) (R:=R) (i:=i) D hi;have L:Zdj m C i t j=Zb8 q C i:=by unfold Zdj;rw[←r]
 rw[L];have M: ∀ x,ZdU m C R x↔ZdU q C R x:=fun x=>by
  constructor
  ·intro h i' f;by_cases e:i'=i
   ·subst e;rw[Zj9 (a:=s) (b:=v) (i:=i') (t:=t) (m:=m) (fun k c=>by rw[n i' k c,if_pos rfl]),h i' f,h t ht];omega
   ·rw[ZbK (m':=m) (i':=i') (fun k c=>by rw[n i' k c,if_neg e])];exact h i' f
  ·intro h i' f;have E:Zco m C t x C=0:=(by have:=h t ht;rw[ZbK (m':=m) (i':=t) (fun k c=>by rw[n t k c,if_neg I])] at this;exact this);by_cases e:i'=i
   ·subst e;have g:=h i' f;rw[Zj9 (a:=s) (b:=v) (i:=i') (t:=t) (m:=m) (fun k c=>by rw[n i' k c,if_pos rfl]),E,Mf,Oc] at g;rcases MN.1 g with g|g
    ·exact (l g).elim
    ·exact g
   ·have g:=h i' f;rw[ZbK (m':=m) (i':=i') (fun k c=>by rw[n i' k c,if_neg e])] at g;exact g
 have J: ∀ k,k<C->(cell (Zb8 q C i) C i k=0↔cell q C i k=0):=fun k c=>by
  rw[G k c];constructor
  ·intro e;rw[e,Mf]
  ·intro e;rcases MN.1 e with e|e
   ·exact (F e).elim
   ·exact e
 refine ⟨fun x=>(M x).trans (Zmx F G H x), ?_,fun i' k c o=> ?_,fun k c N=> ?_⟩
 ·rw[J j hj,n i j hj,if_pos rfl, ←p, ←B,PB,PB v,Int.mul_comm v s];omega
 ·rw[H i' k c o,n i' k c,if_neg o]
 ·rw[J k c,n i k c,if_pos rfl,N,Mf,Oc];constructor
  ·intro e;rcases MN.1 e with e|e
   ·exact (l e).elim
   ·exact e
  ·intro e;rw[e,Mf]
theorem Zmz {C R j t:Nat} (ht:t<R) (hj:j<C): ∀ {n:Nat} {m m':List Int},n<=R->m.length=R*C->cell m C t j≠0->Zaf C j t n m=some m'->
  m'.length=R*C/\(∀ x,ZdU m C R x↔ZdU m' C R x)/\(∀ k,k<C->cell m' C t k=cell m C t k)/\(∀ i,i<n->i≠t->cell m' C i j=0)/\(∀ i k,k<C->cell m C t k=0->(cell m' C i k=0↔cell m C i k=0))
 |0,m,m',_,hl,hc,h=>by obtain rfl:=JJ (show some m=some m' from h);exact ⟨hl,fun _=>Iff.rfl,fun _ _=>rfl,fun i hi=>I,fun _ _ _ _=>Iff.rfl⟩
 |n+1,m,m',hn,hl,hc,h=>by
  simp only[Zaf] at h;cases he:Zaf C j t n m with
  |none=>rw[he] at h;cases h
  |some m1=>
   rw[he] at h;obtain ⟨a1,a2,a3,a4,a5⟩:=Zmz ht hj I hl hc he;simp only at h;by_cases h1:n=t\/cell m1 C n j=0
   ·rw[if_pos h1] at h;obtain rfl:=JJ h;refine ⟨a1,a2,a3,fun i hi hne=> ?_,a5⟩;by_cases e:i=n
    ·subst e;rcases h1 with h1|h1
     ·exact (hne h1).elim
     ·exact h1
    ·exact a4 i I hne
   ·rw[if_neg h1] at h;by_cases h2:Zd3 m1 C n t j=true
    ·rw[if_pos h2] at h;obtain rfl:=JJ h;have hnt:n≠t:=fun e=>h1 (.inl e);obtain ⟨b1,b2,b3,b4⟩:=ZqA a1 I ht hnt hj (by rw[a3 j hj];exact hc);refine ⟨by rw[Zmt];exact a1,fun x=>(a2 x).trans (b1 x),fun k hk=>by rw[b3 t k hk (Ne.symm hnt),a3 k hk],fun i hi hne=> ?_,fun i k hk h0=> ?_⟩
     ·by_cases e:i=n
      ·subst e;exact b2
      ·rw[b3 i j hj e];exact a4 i I hne
     ·by_cases e:i=n
      ·subst e;rw[b4 k hk (by rw[a3 k hk];exact h0)];exact a5 i k hk h0
      ·rw[b3 i k hk e];exact a5 i k hk h0
    ·rw[if_neg h2] at h;cases h
theorem ZjV {m:List Int} {C j:Nat}: ∀ {n k:Nat},(elK m C j n k=k+n/\ ∀ i,k<=i->i<k+n->cell m C i j=0)\/(k<=elK m C j n k/\elK m C j n k<k+n/\cell m C (elK m C j n k) j≠0)
 |0,k=> .inl ⟨rfl,fun i h1 h2=>I⟩
 |n+1,k=>by
  simp only[elK];by_cases h:cell m C k j=0
  ·rw[if_pos h];rcases ZjV (m:=m) (C:=C) (j:=j) (n:=n) (k:=k+1) with ⟨h1,h2⟩|⟨h1,h2,h3⟩
   ·refine .inl ⟨I,fun i h3 h4=> ?_⟩;by_cases e:i=k
    ·subst e;exact h
    ·exact h2 i I I
   ·exact .inr ⟨I,I,h3⟩
  ·rw[if_neg h];exact .inr ⟨JM _,I,h⟩
theorem Zr6 (hl:m.length=R*C) (ht:t<R) (hk:k<R):(Zbs m C t k).length=R*C/\(∀ x,ZdU m C R x↔ZdU (Zbs m C t k) C R x)/\ ∀ i c,c<C->cell (Zbs m C t k) C i c=if i=k then cell m C t c else if i=t then cell m C k c else cell m C i c:=by
 unfold Zbs;by_cases e:k=t
 ·rw[if_pos e];subst e;refine ⟨hl,fun _=>Iff.rfl,fun i c _=> ?_⟩;by_cases a:i=k
  ·rw[if_pos a,a]
  ·rw[if_neg a,if_neg a]
 ·rw[if_neg e];have d: ∀ i c,c<C->cell (swR m C k t) C i c=if i=k then cell m C t c else if i=t then cell m C k c else cell m C i c:=fun i c h=>Zej hl hk ht e h;refine ⟨by unfold swR;rw[ZbA];exact hl,fun x=> ?_,d⟩;have g:Zco (swR m C k t) C k x C=Zco m C t x C:=ZbK fun c h=>by rw[d k c h,if_pos rfl]
  have j:Zco (swR m C k t) C t x C=Zco m C k x C:=ZbK fun c h=>by rw[d t c h,if_neg (Ne.symm e),if_pos rfl]
  have l: ∀ i,i≠k->i≠t->Zco (swR m C k t) C i x C=Zco m C i x C:=fun i n o=>ZbK fun c h=>by rw[d i c h,if_neg n,if_neg o]
  constructor
  ·intro h i f;by_cases b:i=k
   ·rw[b,g];exact h t ht
   ·by_cases a:i=t
    ·rw[a,j];exact h k hk
    ·rw[l i b a];exact h i f
  ·intro h i f;by_cases b:i=k
   ·rw[b, ←j];exact h t ht
   ·by_cases a:i=t
    ·rw[a, ←g];exact h k hk
    ·rw[←l i b a];exact h i f
structure Pvs (C R:Nat) (m:List Int) (j t:Nat) (p:Nat->Nat):Prop where
 len:m.length=R*C
 le:t<=R
 piv: ∀ l,l<t->p l<j/\cell m C l (p l)≠0/\ ∀ i,i<R->i≠l->cell m C i (p l)=0
 low: ∀ i,t<=i->i<R-> ∀ k,k<j->cell m C i k=0
theorem Zkg {C R:Nat}: ∀ {n j t:Nat} {m m':List Int} {p:Nat->Nat} {T:Nat},j+n=C->Pvs C R m j t p->ecN C R n j t m=some (T,m')->(∀ x,ZdU m C R x↔ZdU m' C R x)/\ ∃ p',Pvs C R m' C T p'
 |0,j,t,m,m',p,T,hj,hP,h=>by
  obtain ⟨rfl,rfl⟩:=Prod.mk.inj (JJ (show some (t,m)=some (T,m') from h));obtain rfl:j=C:=I
  exact ⟨fun _=>Iff.rfl,p,hP⟩
 |n+1,j,t,m,m',p,T,hj,hP,h=>by
  by_cases htR:t<R
  ·by_cases hk:elK m C j (R-t) t=R
   ·rw[ZoD htR rfl hk] at h;refine Zkg (p:=p) I ⟨hP.len,hP.le,fun l hl=> ?_,fun i h1 h2 k h3=> ?_⟩ h
    ·obtain ⟨q1,q2,q3⟩:=hP.piv l hl;exact ⟨I,q2,q3⟩
    ·by_cases e:k=j
     ·subst e;rcases ZjV (m:=m) (C:=C) (j:=k) (n:=R-t) (k:=t) with ⟨_,h4⟩|⟨_,h4,_⟩
      ·exact h4 i h1 I
      ·omega
     ·exact hP.low i h1 h2 k I
   ·obtain ⟨k,hkk⟩:=eX (elK m C j (R-t) t);obtain ⟨hk1,hk2,hk3⟩:t<=k/\k<R/\cell m C k j≠0:=by
     rcases ZjV (m:=m) (C:=C) (j:=j) (n:=R-t) (k:=t) with ⟨h4,_⟩|⟨h3,h4,h5⟩
     ·exact (hk I).elim
     ·rw[hkk];exact ⟨h3,I,h5⟩
    obtain ⟨c1,c2,c3⟩:=Zr6 hP.len htR hk2;cases he:Zaf C j t R (Zbs m C t k) with
    |none=>rw[Zoh htR hkk I he] at h;cases h
    |some m2=>
     rw[ZnY htR hkk I he] at h;have hjC:j<C:=I;have hpv:cell (Zbs m C t k) C t j≠0:=by
      rw[c3 t j hjC];by_cases e:t=k
      ·rw[if_pos e,e];exact hk3
      ·rw[if_neg e,if_pos rfl];exact hk3
     obtain ⟨d1,d2,d3,d4,d5⟩:=Zmz htR hjC (JM _) c1 hpv he;have hlow: ∀ i,t<=i->i<R-> ∀ c,c<j->cell (Zbs m C t k) C i c=0:=fun i h1 h2 c hc=>by
      rw[c3 i c I];split
      ·exact hP.low t (JM _) htR c hc
      ·split
       ·exact hP.low k hk1 hk2 c hc
       ·exact hP.low i h1 h2 c hc
     have hP':Pvs C R m2 (j+1) (t+1) (fun l=>if l=t then j else p l):=by
      refine ⟨d1,htR,fun l hl=> ?_,fun i h1 h2 c hc=> ?_⟩
      ·show (if l=t then j else p l)<j+1/\cell m2 C l (if l=t then j else p l)≠0/\ ∀ i,i<R->i≠l->cell m2 C i (if l=t then j else p l)=0;by_cases e:l=t
       ·subst e;rw[if_pos rfl];exact ⟨I,by rw[d3 j hjC];exact hpv,fun i hi hne=>d4 i hi hne⟩
       ·rw[if_neg e];obtain ⟨q1,q2,q3⟩:=hP.piv l I;have ht0:cell (Zbs m C t k) C t (p l)=0:=hlow t (JM _) htR _ q1;refine ⟨I,fun h0=> ?_,fun i hi hne=> ?_⟩
        ·rw[d5 l (p l) I ht0,c3 l (p l) I,if_neg I,if_neg I] at h0;exact q2 h0
        ·rw[d5 i (p l) I ht0,c3 i (p l) I];split
         ·exact q3 t htR I
         ·split
          ·exact q3 k hk2 I
          ·exact q3 i hi hne
      ·by_cases e:c=j
       ·subst e;exact d4 i h2 I
       ·rw[d5 i c I (hlow t (JM _) htR c I)];exact hlow i I h2 c I
     obtain ⟨g1,g2⟩:=Zkg I hP' h;exact ⟨fun x=>((c2 x).trans (d2 x)).trans (g1 x),g2⟩
  ·rw[Zkr htR] at h;obtain ⟨rfl,rfl⟩:=Prod.mk.inj (JJ h);refine ⟨fun _=>Iff.rfl,p,hP.len,hP.le,fun l hl=> ?_,fun i h1 h2 k h3=>I⟩;obtain ⟨q1,q2,q3⟩:=hP.piv l hl;exact ⟨I,q2,q3⟩
theorem Zrg {m:Mat} {T:Nat} {z:List Int} (h:ZfI m=some (T,z)): ∃ p,Pvs m.cols.toNat m.rows.toNat z m.cols.toNat T p/\ ∀ x,ZdU m.cells m.cols.toNat m.rows.toNat x↔ZdU z m.cols.toNat m.rows.toNat x:=by
 unfold ZfI at h;by_cases a:Zd m=true
 ·rw[if_pos a] at h;obtain ⟨R,C,b,c,n,o,d,e⟩:=Zl a;rw[b,c,K4,K4] at h ⊢;obtain ⟨f,g,j⟩:=Zkg (p:=fun _=>0) I (show Pvs C R (Za8 m.cells C R) 0 0 _ from ⟨by rw[Zfn];exact d,JI _,fun l d=>I,fun i _ _ k q=>I⟩) h;exact ⟨g,j,fun x=>(ZjB d x (JM _)).trans (f x)⟩
 ·rw[if_neg a] at h;cases h
def Ans (s:ByteArray):Prop:=s≠⟨#[111,107]⟩/\s.size<=1048576/\(10:UInt8)∉s.data.toList
theorem Ans.mk' {l:List UInt8} (h:l≠[111,107]) (hl:l.length<=1048576) (hn:(10:UInt8)∉l):Ans (Za l):=by
 refine ⟨fun e=>h ?_,by rw[Zy];exact hl,hn⟩;have:=congrArg (fun b:ByteArray=>b.data.toList) e;exact Ji
theorem Ze2:Ans ⟨#[110,111,110,101]⟩:=⟨Φ,Φ,Φ⟩
theorem Zt3:Ans ⟨#[119,104,97,116]⟩:=⟨Φ,Φ,Φ⟩
theorem ZdY {s t:ByteArray} (h: ¬ s=t):(s.toList==t.data.toList)=false:=by
 rw[←toList_data,Zwl];exact decide_eq_false h
theorem Zt1 {n:Int} (hn:I64 n):Ans (Za (JK n)):=by
 have c:=MI n hn.1 hn.2;refine Ans.mk' (fun e=> ?_) I Zer;have a:(111:UInt8)∈JK n:=by rw[e];simp
 have b:=Zeh a
 revert b;decide
theorem Ztp (m:Mat):Ans (Za (ZaG m)):=by
 have b:=Zdy m;refine Ans.mk' (fun e=> ?_) I Zp1;cases h:Zd m with
 |false=>rw[Zhp h] at e;cases e
 |true=>
  have a:(120:UInt8)∈ZaG m:=by rw[ZhM h];simp
  rw[e] at a
  revert a;decide
theorem Zj6 (h: ∀ x∈xs,I64 x):(Zca xs).length<=xs.length*22:=by
 have:=join_len_le (xs:=xs.map JK) (sep:=[32]) (b:=21) fun y c=>by obtain ⟨x,a,rfl⟩:=List.mem_map.1 c;exact MI x (h x a).1 (h x a).2
 unfold Zca;rw[List.length_map] at this;simp at this;omega
theorem ZsN (h: ∀ x∈xs,I64 x) (hn:xs.length<=40000):Ans (Za (40::(Zca xs++[41]))):=by
 have a:=Zj6 h;refine Ans.mk' (fun e=> ?_) Ψ (fun h=>by
  rcases JU.1 h with h|h
  ·revert h;decide
  ·rcases List.mem_append.1 h with h|h
   ·exact Zpo h
   ·revert h;decide)
 have:=(List.cons.inj e).1
 revert this;decide
theorem Zvw (m:Mat):ecT m<=24:=by
 cases h:ZfI m with
 |none=>unfold ecT;rw[h];simp
 |some y=>
  obtain ⟨T,z⟩:=y;rw[(Zp7 h).2];obtain ⟨p,d, -⟩:=Zrg h;have e:=d.le;by_cases b:Zd m=true
  ·obtain ⟨R,C,a,f,g,i,j,c⟩:=Zl b;rw[a,K4] at e;omega
  ·unfold ZfI at h;rw[if_neg b] at h;cases h
theorem ZtE (m:Mat):(ZfO m).length<=24:=by
 cases a:Zd m with
 |false=>rw[(ZhP (ZpS a)).2];simp
 |true=>
  obtain ⟨R,C,c,d,e,f,g,i⟩:=Zl a;cases h:ZfH m with
  |none=>rw[(ZhP h).2];simp
  |some x=>rw[(Zom h).2];unfold ZfH at h;rw[if_pos a] at h;obtain ⟨s, -,b⟩:=Option.map_eq_some_iff.1 h;rw[←b];unfold Zdg;refine Nat.le_trans (List.length_filter_le _ _) ?_;simp;omega
theorem Zgg (a:Option Addr) (n c:Nat) (xs:List Int) (w:World) (h:RdI w S a n c xs) (hn:n<=40000) (ht:Tab w):
  Calls prog 62 #[.slice a n c] w fun e w'=>e= .returned (.string (Za (40::(Zca xs++[41]))))/\Grow w w':=by
 have f:=h.len;have g:=Zj6 h.rng;have i:(Za (Zca xs)).size<=1000000:=AY
 have b:=h.rng;clear b;go_enter func62,ntmps62;go_wp2_with fail;refine (Zif a n c xs _ h I ht).mono ?_;rintro e j ⟨rfl,d⟩;go_wp2;go_ret;exact ⟨by first |rfl|(rw[show (⟨#[40]⟩:ByteArray)=Za [40] from rfl,show (⟨#[41]⟩:ByteArray)=Za [41] from rfl,Zo,Zo];rfl),d⟩
def Zrt (word:ByteArray) (m:Mat) (s:ByteArray):Prop:=word=⟨#[115,104,111,119]⟩->s=Za (ZaG m)
theorem ZvP {m:Mat} (word:ByteArray) (h:RdI w S a n c m.cells) (hr:I64 m.rows) (hc:I64 m.cols) (hb:m.cells.length<=1048576) (ht:Tab w):
  Calls prog 28 #[.string word, .agg #[.int .i64 m.rows, .int .i64 m.cols, .slice a n c]] w fun e w'=> ∃ s,e= .returned (.string s)/\Ans s/\Zrt word m s/\Grow w w':=by
 have P:=h.len;obtain ⟨E,g,f,y, -⟩:=al1 w #[.int .i64 m.rows, .int .i64 m.cols, .slice a n c] 37;have p:VM E S (.agg #[.int .i64 m.rows, .int .i64 m.cols, .slice a n c]) m:=⟨a,n,c,rfl,h.grow f,hr,hc⟩;obtain ⟨⟨F,G,H⟩, -⟩:=y.three;have j:=y.lt;rw[g] at F G H j;have d:=hid g;have q:=hid (ht.grow f);have k:bdM m<=1048576:=Bq
 clear g ht;go_enter func28,ntmps28;by_cases o:word=⟨#[115,104,111,119]⟩
 ·subst o;go_wp2_with fail;rw[←d.out];refine (Zcm p I q.out).mono ?_;rintro e z ⟨rfl,b⟩;go_wp2;go_ret;exact ⟨_,rfl,Ztp m,fun _=>rfl,f.trans b⟩
 by_cases r:word=⟨#[114,97,110,107]⟩
 ·subst r;go_wp2_with fail;rw[←d.out];refine (ZrO p k).mono ?_;rintro e z ⟨rfl,b⟩;cases Zia m with
  |true=>have J:=Zvw m;have A:I64 ((ecT m:Nat):Int):=ι;go_wp2_with fail;refine (Zbp _ _ A (q.out.grow b)).mono ?_;rintro e L ⟨rfl,i⟩;go_wp2;go_ret;exact ⟨_,rfl,Zt1 A,fun h=>absurd h Φ,(f.trans b).trans i⟩
  |false=>go_wp2;go_ret;exact ⟨_,rfl,Ze2,fun h=>absurd h Φ,f.trans b⟩
 by_cases t:word=⟨#[102,97,99,116,111,114,115]⟩
 ·subst t;go_wp2_with fail;rw[←d.out];refine (ZqD p k).mono ?_;rintro e z ⟨x,rfl,⟨M,N,O,rfl,B,C, -⟩,b⟩;obtain rfl:N=(ZfO m).length:=by have:=B.len;simp[ints] at this;omega
  have D:=ZtE m;cases Zf0 m with
  |true=>go_wp2_with fail;refine (Zgg (S:=fun _=>True) M _ O _ _ (B.rdI (fun _ _=>trivial) C) I (q.out.grow b)).mono ?_;rintro e L ⟨rfl,i⟩;go_wp2;go_ret;exact ⟨_,rfl,ZsN C I,fun h=>absurd h Φ,(f.trans b).trans i⟩
  |false=>go_wp2;go_ret;exact ⟨_,rfl,Ze2,fun h=>absurd h Φ,f.trans b⟩
 ·have R:(word.toList==[115,104,111,119])=false:=ZdY o;have T:(word.toList==[114,97,110,107])=false:=ZdY r;have V:(word.toList==[102,97,99,116,111,114,115])=false:=ZdY t;have l:=o;clear o r t;have v:=hid l;clear l;go_wp2;go_ret;exact ⟨_,rfl,Ze2,fun h=>(v.out h).elim,by rw[←d.out];exact f⟩
theorem Zqa (l:List Dfn) (d:Dfn):ZaE (ZdP l d).1<=ZaE l+bdD d+1:=by
 unfold ZdP;split
 ·exact Zr7 l d
 ·simp[ZaE]
theorem Zn4 {l:List Dfn} {d:Dfn} (h:d∈l):bdD d<=ZcI l:=by
 induction l with
 |nil=>cases h
 |cons x r a=>
  rw[ZsG];rcases JU.1 h with rfl|h
  ·omega
  ·have:=a h;omega
theorem ZjN {p:UInt8->Bool}: ∀ {l cur x:List UInt8},Zj p cur l=[x]->x=cur++l
 |[],cur,x,h=>by simp[Zj] at h;simp[h]
 |c::r,cur,x,h=>by
  unfold Zj at h;split at h
  ·have h1:=(List.cons.inj h).2;have h2:=(Zcu p r []).2;rw[h1] at h2;simp at h2
  ·have:=ZjN h;exact Ji
def Zdn:List UInt8:=[117,110,100,111]
theorem Znl:L=Zdn↔Zj sp [] L=[Zdn]:=by
 constructor
 ·rintro rfl;decide
 ·intro h;have:=ZjN h;simpa using this.symm
def okS:ByteArray:=⟨#[111,107]⟩
def ZvO (L:List UInt8) (D:List Dfn) (P:List (List Dfn)) (D':List Dfn) (P':List (List Dfn)) (s:ByteArray):Prop:=
 (s≠okS/\D'=D/\P'=P/\(L=Zdn->P=[]))\/(s=okS/\L=Zdn/\P=P'++[D'])\/(s=okS/\L≠Zdn/\P'=P++[D]/\ZaE D'<=ZaE D+L.length+577)
def ZqV:List UInt8:=[115,104,111,119]
def Zex (D:List Dfn) (nm:ByteArray):ByteArray:=match ZhC D nm with
 |some m=>Za (ZaG m)
 |none=>⟨#[110,111,110,101]⟩
def Shw (L nm:List UInt8):Prop:=L=ZqV++(32::nm)/\(32:UInt8)∉nm
def Zwr (L:List UInt8) (D:List Dfn) (P:List (List Dfn)) (D':List Dfn) (P':List (List Dfn)) (s:ByteArray):Prop:=
 ZvO L D P D' P' s/\s.size<=1048576/\(10:UInt8)∉s.data.toList/\ ∀ nm,Shw L nm->s=Zex D (Za nm)
theorem ZrL {nm:List UInt8} (h:Shw L nm):Zj sp [] L=[ZqV,nm]:=by
 obtain ⟨rfl,h⟩:=h;rw[Zc0 DN Φ];rw[Zf6 (p:=sp) (fun x a=>beq_eq_false_iff_ne.2 fun e=>h (by rw[←e];exact a))];rfl
def RsOwn (w:World) (a:Option Addr) (n c:Nat) (m:Mat):Prop:=Own w 3 1 a n c (ints m.cells)/\(∀ x∈m.cells,I64 x)/\I64 m.rows/\I64 m.cols/\m.cells.length<=1048576
theorem RsOwn.grow {w':World} {m:Mat} (h:RsOwn w a n c m) (hG:Grow w w'):RsOwn w' a n c m:=⟨h.1.grow hG,h.2⟩
theorem Zn6 {m m':Mat} (h:rb=if ok=true then some m else none) (e:rb=some m'):m=m':=by
 cases ok with
 |false=>rw[e] at h;cases h
 |true=>rw[e] at h;exact (JJ h).symm
theorem Zqb {m:Mat} (h:rb=if ok=true then some m else none):ok=rb.isSome:=by cases ok<;>rw[h]<;>rfl
def RsPost (B:Nat) (rb:Option Mat):Nat->Value->World->Prop
 |4,v,w=> ∃ a n c, ∃ m:Mat, ∃ ok,v= .tuple #[.agg #[.int .i64 m.rows, .int .i64 m.cols, .slice a n c], .bool ok]/\RsOwn w a n c m/\rb=(if ok=true then some m else none)
 |5,v,w=> ∃ a n c, ∃ m:Mat, ∃ ok,v= .tuple #[.agg #[.int .i64 m.rows, .int .i64 m.cols, .slice a n c], .bool ok]/\RsOwn w a n c m/\rb=(if ok=true then some m else none)
 |6,v,w=> ∃ a n c, ∃ m:Mat,v= .agg #[.int .i64 m.rows, .int .i64 m.cols, .slice a n c]/\RsOwn w a n c m/\ ∀ m',rb=some m'->m=m'
 |7,v,_=>v= .bool rb.isSome
 |8,v,w=> ∃ g,v= .pointer (some ⟨g,0,none⟩)/\B<=g/\Blk w g #[.int .i64 0, .int .i64 0, .slice none 0 0] 37
 |_,_,_=>True
theorem RsPost.stays {z:Nat}: ∀ i v w w',Grow w w'->RsPost z rb i v w->RsPost z rb i v w':=fun i v w w' hG h=>by
 unfold RsPost at *;split at h
 ·exact J5
 ·exact J5
 ·obtain ⟨a,n,c,m,e,h1,h2⟩:=h;exact ⟨a,n,c,m,e,h1.grow hG,h2⟩
 ·exact h
 ·exact Gy
 ·trivial
theorem RdS.subS {l:List ByteArray} (h:RdS w S a n cap l) (hk:k<=n):RdS w S (Zds a cap k 1) (n-k) (cap-k) (l.drop k):=by
 have b:=h.row.sub (l:=k) (k:=n) hk (JM _);have c:=h.len;refine ⟨?_,Ψ⟩;have e:((strs l).drop (k*1)).take ((n-k)*1)=strs (l.drop k):=by unfold strs;rw[Ld,Ld, ←List.map_drop,List.take_of_length_le Ψ]
 rw[←e];exact b

end Go.Proofs.YtgjefeiddfjjnaaGreatDoor
