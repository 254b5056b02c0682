/- The reference's IdentityMatrix and HermiteForm. -/
import Derived.Test.YtgjefeiddfjjnaaGreatDoorZHermW
set_option maxHeartbeats 8000000
set_option maxRecDepth 100000
namespace Go.Proofs.YtgjefeiddfjjnaaGreatDoor
open Go.RowKit
open Lib (hid)
open Go.Value renaming int->Yv
open Go.IntKind renaming i64->Yi
open Grow renaming refl->JH
open Keep renaming refl->JO
open List renaming getElem?_cons_succ->Kx,getElem?_cons_zero->Ku,getElem?_toArray->Kt
open Nat renaming mul_le_mul->JL,zero_le->JI
open Go.Proofs.Tryz renaming func161->Ov,func90->PW,ntmps161->Ow,ntmps90->PX,prog->JG
variable {C R c n:Nat} {S:Nat->Prop} {a:Option Addr} {m:Mat} {s:HS} {w:World}
def idN (n k:Nat):List Int:=(List.range k).foldl (fun l i=>l.set (i*n+i) 1) (List.replicate (n*n) 0)
theorem Zko (n k:Nat):idN n (k+1)=(idN n k).set (k*n+k) 1:=by unfold idN;rw[List.range_succ,List.foldl_append];rfl
theorem Zvo (n k:Nat):(idN n k).length=n*n:=by
 induction k with
 |zero=>simp[idN]
 |succ k a=>rw[Zko,List.length_set,a]
theorem Zfh (n:Nat) (w:World) (hn:n<=24):
  Calls JG 144 #[Yv Yi n] w fun e w'=> ∃ a,e= .returned (.tuple #[.agg #[Yv Yi n,Yv Yi n, .slice a (n*n) (n*n)], .bool true])/\Own w' 3 1 a (n*n) (n*n) (ints (idL n))/\(∀ q,blk a=some q->w.heap.size<=q)/\Grow w w':=by
 have h:inB (n:Int) 0 24=true:=DX
 have v:=hid h;clear h;have D:n*n<=24*24:=JL hn hn;go_enter Tryz.func144,Tryz.ntmps144;go_wp2_with fail;refine (ZaU _ _ _ _).mono ?_;rintro e _ ⟨rfl,rfl⟩;rw[v.out];have l:=(JH w).alloc #[Yv Yi 0,Yv Yi 0, .slice none 0 0] 37;have B:=Blk.new w #[Yv Yi 0,Yv Yi 0, .slice none 0 0] 37;go_wp2_with fail;refine (Zg5 n n _ I I).mono ?_;rintro e s ⟨a,rfl,hO,E,d⟩;have hB': ∀ q,blk a=some q->w.heap.size<q:=fun q hq=>by have:=E q hq;simp at this;omega
 have b:=l.trans d;have m:=B.grow d;have f:=(JH s).alloc #[Yv Yi (n:Int),Yv Yi (n:Int), .slice a (n*n) (n*n)] 37;have F:=Blk.new s #[Yv Yi (n:Int),Yv Yi (n:Int), .slice a (n*n) (n*n)] 37;have o:=hO.grow f;have bZ2:=m.grow f;have hG02:=b.trans f;have G:blk a≠some s.heap.size:=fun e=>Dg
 have nZ:blk a≠some w.heap.size:=fun e=>by have:=hB' _ e;omega
 have H:=b.size;clear hO B m b l d;go_wp2;go_loopw [5] (fun q wr=>Keep (fun q=>blk a≠some q) (s.alloc (.cells #[Yv Yi (n:Int),Yv Yi (n:Int), .slice a (n*n) (n*n)] 37)) wr/\ ∃ k:Nat,k<=n/\q=Yv Yi k/\Own wr 3 1 a (n*n) (n*n) (ints (idN n k))) (fun q _=>n-(intOf q).toNat);case atStart=>exact ⟨JO _ _,0,JI _,rfl,by simpa [idN] using o⟩
 case round=>
  clear o;obtain ⟨hK,k,L,rfl,hO⟩:=hrel;have p:=F.keep hK G;obtain ⟨⟨M,N,O⟩, -⟩:=p.three;have C:=p.lt;by_cases r:k<n
  ·have y:k*n+k<n*n:=Zf r r;obtain ⟨t,rfl⟩: ∃ t,a=some ⟨t,0,none⟩:=by
    exact Gz
   have z:=hO.cell (Zab (j:=k*n+k) (x:=(idN n k).getD (k*n+k) 0) (by rw[Zvo];exact y) rfl);have A:=hO.free (k*n+k);have u1:=Z6 (i:=k) (c:=n) I I;have u2:=ZaF (i:=k) (c:=n) (j:=k) I I I rfl;have g:=hO.set (k*n+k) (Yv Yi 1);rw[←ints_set, ←Zko] at g;generalize (idN n k).getD (k*n+k) 0=x at *;generalize k*n+k=J at *;simp only at z A g;have hKs:Keep (fun q=>blk (some (⟨t,0,none⟩:Addr))≠some q) wr (wr.setCell ⟨t,J,none⟩ (Yv Yi 1)):=kS;go_wp2;go_roundw;case rel=>exact ⟨hK.trans hKs,k+1,I,Δ,g⟩
   case measure=>exact FN
  ·exact Gi
def ZbS (m:Mat):Option HS:=if Zd m=true then ZbP m.cells m.rows.toNat m.cols.toNat else none
def Zit (m:Mat):Bool:=(ZbS m).isSome
def Zm1 (m:Mat):Mat:=match ZbS m with |some s=>{rows:=m.rows,cols:=m.cols,cells:=s.1}|none=>{rows:=0,cols:=0,cells:=[]}
def Zm0 (m:Mat):Mat:=match ZbS m with |some s=>{rows:=m.rows,cols:=m.rows,cells:=s.2}|none=>{rows:=0,cols:=0,cells:=[]}
theorem Zqz (h:ZbS m=none):Zit m=false/\Zm1 m={rows:=0,cols:=0,cells:=[]}/\Zm0 m={rows:=0,cols:=0,cells:=[]}:=by
 unfold Zit Zm1 Zm0;rw[h];exact ⟨rfl,rfl,rfl⟩
theorem Zqy (h:ZbS m=some s):Zit m=true/\Zm1 m={rows:=m.rows,cols:=m.cols,cells:=s.1}/\Zm0 m={rows:=m.rows,cols:=m.rows,cells:=s.2}:=by
 unfold Zit Zm1 Zm0;rw[h];exact ⟨rfl,rfl,rfl⟩
theorem Zay {l:List Int} (hR:R<=24) (hC:C<=24) (hl:l.length=R*C) (h:NumL l):Zd {rows:=R,cols:=C,cells:=l}=true:=by
 unfold Zd ZbW;rw[show Zez l=true from List.all_eq_true.2 fun x a=>ZB.2 (h x a),Bool.and_true,decide_eq_true_eq];exact ⟨Θ,Ψ,Θ,Ψ,by simp[hl]⟩
theorem VM.zero:VM w S (.agg #[Yv Yi 0,Yv Yi 0, .slice none 0 0]) {rows:=0,cols:=0,cells:=[]}:=
 ⟨none,0,0,rfl,⟨⟨rfl,Nat.le_refl _,Γ,fun _=>rfl,fun h=>(h rfl).elim⟩,fun x hx=>AO⟩,by show I64 0;unfold I64;omega,by show I64 0;unfold I64;omega⟩
theorem Zv {P:Program} {fn:Func} {R:Ending->World->Prop} {a:Act} {ty:TypeId} {cs ds:Array Value} {p q u:Tmp} {g g':Nat} {t:TypeId} (hT:StT P ty cs.size) (hT':StT P ty ds.size) (h:fn.results= #[.cell p ty, .cell q ty, .tmp u]) (hd:a.defers=[]) (hp:a.tmps.getD p undef= .pointer (some ⟨g,0,none⟩)) (hq:a.tmps.getD q undef= .pointer (some ⟨g',0,none⟩))
  (hb:Blk w g cs t) (hb':Blk w g' ds t) (hR:R (.returned (.tuple #[.agg cs, .agg ds,a.tmps.getD u undef])) w):bodyPost P fn R .ret a w:=by
 have b:a.tmps[p]?.getD undef= .pointer (some ⟨g,0,none⟩):=Et
 have c:a.tmps[q]?.getD undef= .pointer (some ⟨g',0,none⟩):=by simpa using hq
 refine bodyPost_ret (v:= .tuple #[.agg cs, .agg ds,a.tmps.getD u undef]) ?_ hd hR;simp[results,h,b,c,asAddr,hT.load hb,hT'.load hb']
theorem Zt4 {m:List Int} (hl:m.length=R*C) (hm:NumL m) (h:ZbP m R C=some s):Hs C R s:=(Zcj hl hm h).1
theorem ZgQ {mr mc:Int} (hVM:VM w S (.agg #[Yv Yi mr,Yv Yi mc, .slice a n c]) m) (hb:bdM m<=1048576) (hB:Zd m=false):
  Calls JG 90 #[.agg #[Yv Yi mr,Yv Yi mc, .slice a n c]] w fun e w'=>e= .returned (.tuple #[.agg #[Yv Yi 0,Yv Yi 0, .slice none 0 0], .agg #[Yv Yi 0,Yv Yi 0, .slice none 0 0], .bool false])/\Grow w w':=by
 obtain ⟨f,b,hG,g,bR1,bR2, -⟩:=al3 w #[Yv Yi mr,Yv Yi mc, .slice a n c] 37 #[Yv Yi 0,Yv Yi 0, .slice none 0 0] 37 #[Yv Yi 0,Yv Yi 0, .slice none 0 0] 37;have d:=hid b;clear b;have HB:=hid hB;clear hB;go_enter PW,PX;go_wp2_with fail;rw[←d.out];refine (ZL (hVM.grow hG) I).mono ?_;exact Gh
theorem Zf9 {cells:List Int} (h:RdI w S a n c cells) (hl:cells.length=R*C) (hnum:NumL cells) (hR:R<=24) (hC:C<=24):
  Calls JG 90 #[.agg #[Yv Yi R,Yv Yi C, .slice a n c]] w fun e w'=>Grow w w'/\((ZbP cells R C=none/\e= .returned (.tuple #[.agg #[Yv Yi 0,Yv Yi 0, .slice none 0 0], .agg #[Yv Yi 0,Yv Yi 0, .slice none 0 0], .bool false]))\/
   ∃ s aa ca au cu,ZbP cells R C=some s/\e= .returned (.tuple #[.agg #[Yv Yi R,Yv Yi C, .slice aa (R*C) ca], .agg #[Yv Yi R,Yv Yi R, .slice au (R*R) cu], .bool true])/\RdI w' (fun q=>w.heap.size<=q) aa (R*C) ca s.1/\RdI w' (fun q=>w.heap.size<=q) au (R*R) cu s.2):=by
 have a4:R*C<=24*24:=JL hR hC;have a5:R*R<=24*24:=JL hR hR;have hB:=Zay hR hC hl hnum;obtain ⟨mr,P⟩: ∃ mr:Int,mr=R:=⟨_,rfl⟩;obtain ⟨mc,T⟩: ∃ mc:Int,mc=C:=⟨_,rfl⟩;have y:VM w S (.agg #[Yv Yi R,Yv Yi C, .slice a n c]) {rows:=(R:Int),cols:=(C:Int),cells:=cells}:=⟨a,n,c,rfl,h,δ,η⟩;rw[←P, ←T] at y hB ⊢;obtain ⟨w3,V,O,bM,p,k, -⟩:=al3 w #[Yv Yi mr,Yv Yi mc, .slice a n c] 37 #[Yv Yi 0,Yv Yi 0, .slice none 0 0] 37 #[Yv Yi 0,Yv Yi 0, .slice none 0 0] 37;have af:=hid V;clear V;subst P;subst T;have HB:=hid hB;clear hB;go_enter PW,PX;go_wp2_with fail;rw[←af.out];refine (ZL (y.grow O) Ar).mono ?_;rintro e w4 ⟨rfl,r⟩;rw[HB.out];have z:=bM.grow r;obtain ⟨⟨A,B,D⟩, -⟩:=z.three;go_wp2_with fail;refine (Zic ((y.grow O).grow r) Ar).mono ?_;rintro e o ⟨va,rfl,hA,E⟩;obtain ⟨aa,na,ca,rfl,oA,rA,fA,ag,ah⟩:=hA;replace oA:Own o 3 1 aa na ca (ints cells):=oA;have ai:na=R*C:=BG
 subst ai;clear ag ah A B D;have bX:=Blk.new o #[Yv Yi (R:Int),Yv Yi (C:Int), .slice aa (R*C) ca] 37;have F:=(JH o).alloc #[Yv Yi (R:Int),Yv Yi (C:Int), .slice aa (R*C) ca] 37;have d:=(r.trans E).trans F;have oA5:=oA.grow F;have aj:=bM.grow d;obtain ⟨⟨A,B,D⟩, -⟩:=aj.three;have ay:w.heap.size<o.heap.size:=(z.grow E).lt;have a6:w.heap.size+1+1<w4.heap.size:=(k.grow r).lt;have az:=E.size;have fA': ∀ q,blk aa=some q->w.heap.size+1+1<q:=fun q hq=>Fs
 have ak:blk aa≠some o.heap.size:=fun e=>by have:=oA.lt e;omega
 clear oA z bM fA;go_wp2_with fail;refine (Zfh R _ hR).mono ?_;rintro e v ⟨au,rfl,oU,fU,f⟩;have G:=oA5.grow f;have W:=bX.grow f;have hs6:=f.size;have a3:o.heap.size<v.heap.size:=D4
 have fU': ∀ q,blk au=some q->o.heap.size<q:=fun q hq=>B6
 have g:=(JH v).alloc #[Yv Yi (R:Int),Yv Yi (R:Int), .slice au (R*R) (R*R)] 37;have bU:=Blk.new v #[Yv Yi (R:Int),Yv Yi (R:Int), .slice au (R*R) (R*R)] 37;have al: ∀ q,blk aa=some q->blk au≠some q:=fun q hq e=>DJ
 have am:blk au≠some o.heap.size:=fun e=>BN
 have an:blk aa≠some v.heap.size:=fun e=>by have:=G.lt e;omega
 have ao:blk au≠some v.heap.size:=fun e=>by have:=oU.lt e;omega
 have x:Two (v.alloc (.cells #[Yv Yi (R:Int),Yv Yi (R:Int), .slice au (R*R) (R*R)] 37)) aa au (R*C) (R*R) ca (R*R) (cells,idL R):=⟨G.grow g,oU.grow g,al⟩;have X:Hs C R (cells,idL R):=⟨hl,Zbl R,hnum,Zbi R⟩;have H:=W.grow g;obtain ⟨⟨A,B,D⟩, -⟩:=H.three;obtain ⟨⟨b0,b1,b2⟩, -⟩:=bU.three;clear oA5 G oU fU F bX W;go_wp2_with fail;refine (Znh aa au ca (R*R) R C (cells,idL R) _ x X hR hC).mono ?_;rintro e w7 ⟨b,s',rfl,ap,i,l,J⟩;have Y:=((O.trans d).trans f).trans g;have L:Grow w w7:=Y.keep i (fun q hq=>⟨fun e=>by have:=fA' q e;omega,fun e=>by have:=fU' q e;omega⟩);have M:=((p.grow ((d.trans f).trans g)).keep i ⟨fun e=>Dh,fun e=>BN⟩);have N:=((k.grow ((d.trans f).trans g)).keep i ⟨fun e=>Dh,fun e=>BN⟩);replace H:=H.keep i ⟨ak,am⟩;have a7:=bU.keep i ⟨an,ao⟩;obtain ⟨⟨A,B,D⟩,f0,f1,f2⟩:=M.three;obtain ⟨⟨b0,b1,b2⟩,g0,g1,g2⟩:=N.three;have a8:=L.size;clear O x X g bU d f i Y p k;cases b with
 |false=>
  have Hn:=hid (J rfl);clear J l;have O:=L;have p:=M;have k:=N;go_wp2;have h1:w.heap.size<=w.heap.size+1:=I
  have h2:w.heap.size<=w.heap.size+1+1:=I
  refine Zv Zc Zc rfl rfl rfl rfl ((((((p.set 0 _).set 1 _).set 2 _).other Θ _).other Θ _).other Θ _) ((((((k.other Θ _).other Θ _).other Θ _).set 0 _).set 1 _).set 2 _) ?_;exact ⟨(((((O.setCell h1 _).setCell h1 _).setCell h1 _).setCell h2 _).setCell h2 _).setCell h2 _, .inl ⟨Hn.out,rfl⟩⟩
 |true=>
  have Hy:=hid (l rfl);clear l J A B D f0 f1 f2 b0 b1 b2 g0 g1 g2;have n5:o.heap.size≠w.heap.size+1/\o.heap.size≠w.heap.size+1+1:=⟨I,I⟩;have n6:v.heap.size≠w.heap.size+1/\v.heap.size≠w.heap.size+1+1:=⟨I,I⟩;go_wp2;refine Zcr (fun q=>q≠w.heap.size+1/\q≠w.heap.size+1+1) [([0,1],some 2),([],some 3),([4],none)] ?_;refine Zh ?_;obtain ⟨w8,hw8⟩:=eX w7.drew;rw[←hw8];have j:Grow w7 w8:=Ct
  clear hw8;have Z:=M.grow j;have aq:=N.grow j;refine Zu rfl (fun K hK=> ?_);obtain ⟨⟨A,B,D⟩,f0,f1,f2⟩:=Z.three;go_wp2_with fail;have m:Keep (fun q=>q≠w.heap.size+1) w8 (((w8.setCell ⟨w.heap.size+1,0,none⟩ (Yv Yi (R:Int))).setCell ⟨w.heap.size+1,1,none⟩ (Yv Yi (C:Int))).setCell ⟨w.heap.size+1,2,none⟩ (.slice aa (R*C) ca)):=
   kS
  have ar:=((Z.set 0 (Yv Yi (R:Int))).set 1 (Yv Yi (C:Int))).set 2 (.slice aa (R*C) ca);have ab:=aq.keep m I;refine hK _ _ (((j.mono fun _ _ _=>trivial).trans (m.mono fun q _ hb=>hb.1))) ?_;clear hK K;generalize (((w8.setCell ⟨w.heap.size+1,0,none⟩ (Yv Yi (R:Int))).setCell ⟨w.heap.size+1,1,none⟩ (Yv Yi (C:Int))).setCell ⟨w.heap.size+1,2,none⟩ (.slice aa (R*C) ca))=w9 at *;clear A B D f0 f1 f2;refine Zh ?_;refine Zu rfl (fun K hK=> ?_);obtain ⟨⟨b0,b1,b2⟩,g0,g1,g2⟩:=ab.three;go_wp2_with fail;have t:Keep (fun q=>q≠w.heap.size+1+1) w9 (((w9.setCell ⟨w.heap.size+1+1,0,none⟩ (Yv Yi (R:Int))).setCell ⟨w.heap.size+1+1,1,none⟩ (Yv Yi (R:Int))).setCell ⟨w.heap.size+1+1,2,none⟩ (.slice au (R*R) (R*R))):=
   kS
  have av:=((ab.set 0 (Yv Yi (R:Int))).set 1 (Yv Yi (R:Int))).set 2 (.slice au (R*R) (R*R));have aw:=ar.keep t I;refine hK _ _ ((((j.mono fun _ _ _=>trivial).trans (m.mono fun q _ hb=>hb.1)).trans (t.mono fun q _ hb=>hb.2))) ?_;clear hK K;refine Zh ?_;refine Ze ?_;have ax:=((L.trans j).keep m (fun q hq=>I)).keep t (fun q hq=>I);have ad:=(((ap.grow j).keep m (fun q hq=>σ) (fun q hq=>Ac))).keep t (fun q hq=>σ) (fun q hq=>Ac);go_wp2;have ae:=Zt4 hl hnum Hy.out;exact Zv Zc Zc rfl rfl rfl rfl aw av ⟨ax, .inr ⟨s',aa,ca,au,R*R,Hy.out,rfl,ad.oa.rdI (fun q hq=>σ) (Zp ae.na),ad.ou.rdI (fun q hq=>Ac) (Zp ae.nu)⟩⟩
theorem addr_add (g j:Nat):(⟨g,0,none⟩:Addr).add j=⟨g,j,none⟩:=AV
theorem ZfX (a:Option Addr) (n cp C i:Nat) (R:Int) (m:List Int) (w:World) (h:Own w 3 1 a n cp (ints m)) (hi:i*C+C<=n) (hi2:i<=1048575) (hC2:C<=1048576):
  Calls JG 33 #[.agg #[Yv Yi R,Yv Yi C, .slice a n cp],Yv Yi i] w fun e w'=> ∃ a1,e= .returned (.slice a1 C (cp-i*C))/\(0<C-> ∃ pb,a=some ⟨pb,0,none⟩/\a1=some ⟨pb,i*C,none⟩)/\Grow w w':=by
 have f:=h.le;have u1:=Z6 (i:=i) (c:=C) I hC2;have u3:IntKind.i64.wrap (((i:Int)+1)*C)=((i:Int)+1)*C:=by have:=Z6 (i:=i+1) (c:=C) I hC2;simpa using this
 have r:=T_ints.atLH (a:=a) (n:=n) (cap:=cp) (l:=i*C) (k:=i*C+C) (i:=(i:Int)*C) (j:=((i:Int)+1)*C) Θ (by rw[Int.add_mul];simp) I I;rw[show i*C+C-i*C=C by omega] at r;have b:0<C-> ∃ pb,a=some ⟨pb,0,none⟩/\Zds a cp (i*C) 1=some ⟨pb,i*C,none⟩:=fun o=>by
  cases a with
  |none=>have:=h.nil rfl;omega
  |some q=>have d:=(h.block q rfl).1;refine ⟨q.block,by rw[←d], ?_⟩;unfold Zds;rw[if_neg I,d,Nat.mul_one];exact congrArg some (addr_add q.block (i*C))
 have g:=hid b;clear b;go_enter Tryz.func33,Tryz.ntmps33;go_wp2;go_ret;exact ⟨_,rfl,g.out,(JH w).alloc _ _⟩
theorem Zci (a:Option Addr) (n cp C i p:Nat) (R t:Int) (m:List Int) (w:World) (h:Own w 3 1 a n cp (ints m)) (hi:i*C+C<=n) (hp:p*C+C<=n) (hip:i≠p) (hm:NumL m) (ht: -400000000<=t/\t<=400000000) (hi2:i<=1000) (hp2:p<=1000) (hC2:C<=1048576):
  Calls JG 161 #[.agg #[Yv Yi R,Yv Yi C, .slice a n cp], .agg #[Yv Yi 2,Yv Yi i,Yv Yi p,Yv Yi t]] w fun e w'=> ∃ m',e= .returned (.bool (Zae m C i p t))/\Own w' 3 1 a n cp (ints m')/\Keep (fun q=>blk a≠some q) w w'/\(Zae m C i p t=true->m'=addR m C i p t):=by
 obtain ⟨kd,F⟩: ∃ kd:Int,kd=2:=⟨_,rfl⟩;rw[←F];have hl:m.length=n:=Ao
 obtain ⟨w2,G,H,bM,bX, -⟩:=al2 w #[Yv Yi R,Yv Yi (C:Int), .slice a n cp] 37 #[Yv Yi kd,Yv Yi (i:Int),Yv Yi (p:Int),Yv Yi t] 169;have x:Own w2 3 1 a n cp (ints m):=h.grow H;have nX:blk a≠some (w.heap.size+1):=fun e=>Ap
 have aa:=hid G;clear G;have am: ∀ q,blk a=some q->q<w.heap.size:=fun q hq=>h.lt hq;clear h;subst F;go_enter Ov,Ow;go_wp2_with fail;rw[←aa.out];refine (ZfX a n cp C i R m _ x hi I hC2).mono ?_;rintro e w3 ⟨a1,rfl,J,f⟩;have y:=x.grow f;have b:=bX.grow f;have L:=bM.grow f;obtain ⟨⟨m0,m1,m2⟩, -⟩:=L.three;have Y:=b.cell 0;have x1:=b.cell 1;have x2:=b.cell 2;have Z:=b.cell 3;simp only[Kt,Ku,Kx] at Y x1 x2 Z;go_wp2_with fail;refine (ZfX a n cp C p R m _ y hp I hC2).mono ?_;rintro e w4 ⟨b1,rfl,M,z⟩;have O:=y.grow z;have ab:=b.grow z;have c:=(H.trans f).trans z;clear Y x1 x2 Z m0 m1 m2 L b y x bM bX;go_wp2;go_loopw [19] (fun q wr=>Keep (fun q=>blk a≠some q) w4 wr/\ ∃ k:Nat,k<=C/\q=Yv Yi k/\Own wr 3 1 a n cp (ints (Zz (ZbD m C i p t) (i*C) k m))/\ ∀ d,d<k->Zi (cell m C p d*t)=true/\Zi (ZbD m C i p t d)=true) (fun q _=>C-(intOf q).toNat);case atStart=>exact ⟨JO _ _,0,JI _,rfl,O,fun d h=>I⟩
 case round=>
  clear O;obtain ⟨hK,k,hk,rfl,A,r⟩:=hrel;have s:=hid r;clear r;by_cases hlt:k<C
  ·have B:=ab.keep hK nX;have Y:=B.cell 0;have Z:=B.cell 3;simp only[Kt,Ku,Kx] at Y Z;have an:=B.lt;have P:(Zz (ZbD m C i p t) (i*C) k m).length=n:=(by rw[ZM,hl]);have S:(Zz (ZbD m C i p t) (i*C) k m).getD (i*C+k) 0=cell m C i k:=BP;have T:(Zz (ZbD m C i p t) (i*C) k m).getD (p*C+k) 0=cell m C p k:=Bn;obtain ⟨D,rfl,rfl⟩:=J I;obtain ⟨ad,v,rfl⟩:=M I;obtain rfl:D=ad:=(by simpa using v);have ae:=A.cell (Zab I S);have af:=A.cell (Zab I T);have ag:=A.free (i*C+k);have ap:=A.lt (g:=D) rfl;have aq:=Zk hm C i k;have ah:=Zk hm C p k;have ao:=Ze7 ah ht;have l: ∀ N,Own ((wr.drewN N).setCell ⟨D,i*C+k,none⟩ (Yv Yi (ZbD m C i p t k))) 3 1 (some ⟨D,0,none⟩) n cp (ints (Zz (ZbD m C i p t) (i*C) (k+1) m)):=fun N=>(by have:=(A.grow ((JH wr).drewN N)).set (i*C+k) (Yv Yi (ZbD m C i p t k));rw[←ints_set] at this;exact this);have o: ∀ N,Keep (fun q=>blk (some (⟨D,0,none⟩:Addr))≠some q) wr ((wr.drewN N).setCell ⟨D,i*C+k,none⟩ (Yv Yi (ZbD m C i p t k))):=fun N=>((JO _ wr).drewN N).setCell (p:=⟨D,i*C+k,none⟩) (fun _ e=>e rfl) _;have Hv:=hid (show ZbD m C i p t k=cell m C i k+cell m C p k*t from rfl);have E:=hid (fun ai: ¬ (Zi (cell m C p k*t)=true/\Zi (ZbD m C i p t k)=true)=>(show Zae m C i p t=false by
    rw[Bool.eq_false_iff];intro e;exact ai (ZcP.1 e k hlt)))
   clear A S T P J M v;simp only at ae af ag;have u5:IntKind.i64.wrap (cell m C p k*t)=cell m C p k*t:=IntWalk.i64_in _ I;have u6:wrap64 (cell m C p k*t)=cell m C p k*t:=θ;have u7:IntKind.i64.wrap (cell m C i k+cell m C p k*t)=cell m C i k+cell m C p k*t:=IntWalk.i64_in _ I;generalize cell m C i k=ca at *;generalize V:cell m C p k=cb at *;have aj:=hid V;clear V;rw[Hv.out] at l o E;go_wp2
   go_quiet (fail)
   go_wp2_with fail;refine (Z0 _ _).mono ?_;rintro e _ ⟨rfl,rfl⟩;cases W:Zi (cb*t) with
   |false=>have HF:=hid (E.out (fun h=>by rw[W] at h;cases h.1));go_wp2;go_ret;exact ⟨_,Dp,l _,(c.any.trans hK).trans (o _),fun h=>by rw[HF.out] at h;cases h⟩
   |true=>
    go_wp2_with fail;refine (Z0 _ _).mono ?_;rintro e _ ⟨rfl,rfl⟩;cases X:Zi (ca+cb*t) with
    |false=>have HF:=hid (E.out (fun h=>by rw[X] at h;cases h.2));go_wp2;go_ret;exact ⟨_,Dp,l _,(c.any.trans hK).trans (o _),fun h=>by rw[HF.out] at h;cases h⟩
    |true=>
     have ak:=hid (show ∀ d,d<k+1->Zi (cell m C p d*t)=true/\Zi (ZbD m C i p t d)=true from fun d ar=>by
      by_cases e:d=k
      ·subst e;rw[Hv.out,aj.out];exact ⟨W,X⟩
      ·exact s.out d I)
     go_wp2;go_roundw;case rel=>exact ⟨hK.trans (o _),k+1,I,Δ,l _,ak.out⟩
     case measure=>exact FN
  ·have al:k=C:=I;subst al;have HT:=hid (ZcP.2 s.out);go_wp2;go_ret;exact ⟨_,by rw[HT.out];rfl,A,c.any.trans hK,fun _=>rfl⟩
theorem Zcp (a:Option Addr) (n cp C i p R:Nat) (t:Int) (m:List Int) (w:World) (h:Own w 3 1 a n cp (ints m)) (hmR:m.length=R*C) (hiR:i<R) (hpR:p<R) (hip:i≠p) (hi2:i<=1000) (hp2:p<=1000) (hC2:C<=1048576):
  Calls JG 161 #[.agg #[Yv Yi (R:Int),Yv Yi C, .slice a n cp], .agg #[Yv Yi 0,Yv Yi i,Yv Yi p,Yv Yi t]] w fun e w'=>e= .returned (.bool true)/\Own w' 3 1 a n cp (ints (swR m C i p))/\Keep (fun q=>blk a≠some q) w w':=by
 have V:=ZcJ hmR hiR;have W:=ZcJ hmR hpR;rw[show m.length=n by simpa using h.len] at V W;obtain ⟨N,s⟩: ∃ N:Int,N=0:=⟨_,rfl⟩;rw[←s];have hl:m.length=n:=Ao
 obtain ⟨w2,v,x,X,Y, -⟩:=al2 w #[Yv Yi (R:Int),Yv Yi (C:Int), .slice a n cp] 37 #[Yv Yi N,Yv Yi (i:Int),Yv Yi (p:Int),Yv Yi t] 169;have f:Own w2 3 1 a n cp (ints m):=h.grow x;have nX:blk a≠some (w.heap.size+1):=fun e=>Ap
 have O:=hid v;clear v;have Z: ∀ q,blk a=some q->q<w.heap.size:=fun q hq=>h.lt hq;clear h;subst s;go_enter Ov,Ow;go_wp2_with fail;rw[←O.out];refine (ZfX a n cp C i (R:Int) m _ f V I hC2).mono ?_;rintro e w3 ⟨a1,rfl,y,c⟩;have j:=f.grow c;have b:=Y.grow c;have z:=X.grow c;obtain ⟨⟨m0,m1,m2⟩, -⟩:=z.three;have M:=b.cell 0;have x1:=b.cell 1;have x2:=b.cell 2;have x3:=b.cell 3;simp only[Kt,Ku,Kx] at M x1 x2 x3;go_wp2_with fail;refine (ZfX a n cp C p (R:Int) m _ j W I hC2).mono ?_;rintro e w4 ⟨b1,rfl,A,l⟩;have B:=j.grow l;have P:=b.grow l;have hG24:=(x.trans c).trans l;clear M x1 x2 x3 m0 m1 m2 z b j f X Y;go_wp2;go_loopw [19] (fun q wr=>Keep (fun q=>blk a≠some q) w4 wr/\ ∃ k:Nat,k<=C/\q=Yv Yi k/\Own wr 3 1 a n cp (ints (swN m C i p k))) (fun q _=>C-(intOf q).toNat);case atStart=>exact ⟨JO _ _,0,JI _,rfl,B⟩
 case round=>
  clear B;obtain ⟨hK,k,hk,rfl,hO⟩:=hrel;by_cases hlt:k<C
  ·have D:=P.keep hK nX;have M:=D.cell 0;simp only[Kt,Ku] at M;have aa:=D.lt;have E:(swN m C i p k).length=n:=(by rw[ZbA,hl]);have F:(swN m C i p k).getD (i*C+k) 0=cell m C i k:=Dm;have G:(swN m C i p k).getD (p*C+k) 0=cell m C p k:=Dl;obtain ⟨o,rfl,rfl⟩:=y I;obtain ⟨S,d,rfl⟩:=A I;obtain rfl:o=S:=(by simpa using d);have H:=hO.cell (Zab I F);have J:=hO.cell (Zab I G);have T:=hO.free (i*C+k);have L:=hO.free (p*C+k);have ab:=hO.lt (g:=o) rfl;have ad:i*C+k≠p*C+k:=fun e=>hip (Zb5 hlt hlt e).1;have hO9:=((hO.set (i*C+k) (Yv Yi (cell m C p k))).set (p*C+k) (Yv Yi (cell m C i k))).grow (JH _).drew;rw[←ints_set, ←ints_set] at hO9;have Hu:=hid (show swN m C i p (k+1)=((swN m C i p k).set (i*C+k) (cell m C p k)).set (p*C+k) (cell m C i k) from rfl);have r:Keep (fun q=>blk (some (⟨o,0,none⟩:Addr))≠some q) wr ((wr.setCell ⟨o,i*C+k,none⟩ (Yv Yi (cell m C p k))).setCell ⟨o,p*C+k,none⟩ (Yv Yi (cell m C i k))).drew:=(((JO _ wr).setCell (p:=⟨o,i*C+k,none⟩) (fun _ e=>e rfl) _).setCell (p:=⟨o,p*C+k,none⟩) (fun _ e=>e rfl) _).drew;clear hO F G E y A d;generalize cell m C i k=ca at H hO9 Hu r;generalize cell m C p k=cb at J hO9 Hu r;simp only at H J T L;go_wp2;go_region;go_wp2;go_roundw;case rel=>exact ⟨hK.trans r,k+1,I,Δ,Ei⟩
   case measure=>exact FN
  ·exact Jy
theorem Zk5 (a:Option Addr) (n cp C i R:Nat) (t:Int) (m:List Int) (w:World) (h:Own w 3 1 a n cp (ints m)) (hmR:m.length=R*C) (hiR:i<R) (hm:NumL m) (hi2:i<=1000) (hC2:C<=1048576):
  Calls JG 161 #[.agg #[Yv Yi (R:Int),Yv Yi C, .slice a n cp], .agg #[Yv Yi 1,Yv Yi i,Yv Yi i,Yv Yi t]] w fun e w'=>e= .returned (.bool true)/\Own w' 3 1 a n cp (ints (ZdT m C i))/\Keep (fun q=>blk a≠some q) w w':=by
 have E:=ZcJ hmR hiR;rw[show m.length=n by simpa using h.len] at E;obtain ⟨F,l⟩: ∃ F:Int,F=1:=⟨_,rfl⟩;rw[←l];have Z:m.length=n:=Ao
 obtain ⟨w2,o,p,P,S, -⟩:=al2 w #[Yv Yi (R:Int),Yv Yi (C:Int), .slice a n cp] 37 #[Yv Yi F,Yv Yi (i:Int),Yv Yi (i:Int),Yv Yi t] 169;have d:Own w2 3 1 a n cp (ints m):=h.grow p;have nX:blk a≠some (w.heap.size+1):=fun e=>Ap
 have G:=hid o;clear o;have T: ∀ q,blk a=some q->q<w.heap.size:=fun q hq=>h.lt hq;clear h;subst l;go_enter Ov,Ow;go_wp2_with fail;rw[←G.out];refine (ZfX a n cp C i (R:Int) m _ d E I hC2).mono ?_;rintro e w3 ⟨a1,rfl,r,c⟩;have f:=d.grow c;have b:=S.grow c;have s:=P.grow c;obtain ⟨⟨m0,m1,m2⟩, -⟩:=s.three;have D:=b.cell 0;have V:=b.cell 1;have W:=b.cell 2;have X:=b.cell 3;simp only[Kt,Ku,Kx] at D V W X;go_wp2_with fail;refine (ZfX a n cp C i (R:Int) m _ f E I hC2).mono ?_;rintro e w4 ⟨b1,rfl,H,j⟩;have v:=f.grow j;have J:=b.grow j;have hG24:=(p.trans c).trans j;clear D V W X m0 m1 m2 s b f d P S;go_wp2;go_loopw [19] (fun q wr=>Keep (fun q=>blk a≠some q) w4 wr/\ ∃ k:Nat,k<=C/\q=Yv Yi k/\Own wr 3 1 a n cp (ints (Zz (fun k=> -cell m C i k) (i*C) k m))) (fun q _=>C-(intOf q).toNat);case atStart=>exact ⟨JO _ _,0,JI _,rfl,v⟩
 case round=>
  clear v;obtain ⟨hK,k,hk,rfl,hO⟩:=hrel;by_cases aa:k<C
  ·have x:=J.keep hK nX;have D:=x.cell 0;simp only[Kt,Ku] at D;have Y:=x.lt;have y:(Zz (fun k=> -cell m C i k) (i*C) k m).length=n:=(by rw[ZM,Z]);have z:(Zz (fun k=> -cell m C i k) (i*C) k m).getD (i*C+k) 0=cell m C i k:=BP;obtain ⟨L,rfl,rfl⟩:=r I;have A:=hO.cell (Zab I z);have M:=hO.free (i*C+k);have ab:=hO.lt (g:=L) rfl;have N:=Zk hm C i k;have hO9:=hO.set (i*C+k) (Yv Yi (-cell m C i k));rw[←ints_set] at hO9;have Hu:=hid (show Zz (fun k=> -cell m C i k) (i*C) (k+1) m=(Zz (fun k=> -cell m C i k) (i*C) k m).set (i*C+k) (-cell m C i k) from rfl);have B:Keep (fun q=>blk (some (⟨L,0,none⟩:Addr))≠some q) wr (wr.setCell ⟨L,i*C+k,none⟩ (Yv Yi (-cell m C i k))):=kS;clear hO z y r H;generalize O:cell m C i k=ca at A N hO9 Hu B;clear O;simp only at A M;go_wp2;go_roundw;case rel=>exact ⟨hK.trans B,k+1,I,Δ,Ei⟩
   case measure=>exact FN
  ·exact Jy

end Go.Proofs.YtgjefeiddfjjnaaGreatDoor
