/- IsSheet: plain part. -/
import Derived.Test.YtgjefeiddfjjnaaGreatDoorZFmtJ
set_option maxHeartbeats 8000000
set_option maxRecDepth 100000
namespace Go.Proofs.YtgjefeiddfjjnaaGreatDoor
open Go.RowKit
open Lib (hid)
open Go.Value renaming int->Yv
open Go.IntKind renaming i64->Yi
open Grow renaming refl->JH
open List renaming getElem?_append_right->KS,getElem?_eq_getElem->JR,getElem?_eq_some_iff->K1,getElem?_set_ne->NG,getElem?_set_self->NF,getElem?_take_of_lt->Oa,getElem_mem->K7,length_set->KZ,mem_of_getElem?->JX,mem_or_eq_of_mem_set->Lf,mem_range->JW,pairwise_iff_getElem->LZ,range->JN
open Nat renaming lt_of_lt_of_le->Lj,lt_succ_iff_lt_or_eq->Pw,zero_le->JI
open Option.some renaming inj->JJ
open Go.Proofs.Tryz renaming func26->Py,ntmps26->Pz,prog->JG
open Go.Proofs.Tryz
variable {D L l p:List Dfn} {F G S T:Nat->Prop} {P:List (List Dfn)} {a a1 am b:Option Addr} {c cap cm g j k n sz:Nat} {cs:Array Value} {d:Dfn} {e:TypeId} {ss:List Value} {v:Value} {w w' w0 w2:World} {xss:List (List Int)}
theorem Zig {α:Type} {f:α->Bool}: ∀ {l:List α} {k:Nat},0<=firstIdx f (l.take k)->firstIdx f l=firstIdx f (l.take k)
 |[],k,h=>Θ
 |x::r,0,h=>by simp[firstIdx] at h
 |x::r,k+1,h=>by
  simp only[List.take_succ_cons,firstIdx] at h ⊢;by_cases hx:f x=true
  ·simp[hx]
  ·simp only[hx] at h ⊢;by_cases h0:firstIdx f (r.take k)<0
   ·rw[if_pos h0] at h;simp at h
   ·rw[Zig (l:=r) (k:=k) I]
theorem ZmT {α:Type} {f:α->Bool} {l:List α} {x:α} (hk:l[k]? =some x) (hx:f x=true):(firstIdx f l==(k:Int))=decide (firstIdx f (l.take k)<0):=by
 rw[Bool.eq_iff_iff,beq_iff_eq,decide_eq_true_eq];constructor
 ·intro h;by_cases a:0<=firstIdx f (l.take k)
  ·have c:=Zig a;have d:=(Zc5 f (l.take k)).2;have e:=List.length_take_le k l;omega
  ·omega
 ·intro h;refine Zfm (fun y b=> ?_) hk hx;have:=mt (Zgl f (l.take k)).2 I;simp only[Bool.not_eq_true,List.any_eq_false] at this;simpa using this y b
def ZaY (l:List Dfn) (k:Nat):Bool:=match l[k]? with
 |some d=>Z9 d&&decide (Zn (l.take k) d.name<0)
 |none=>true
def Zaa (l:List Dfn):Bool:=(JN l.length).all (ZaY l)&&decide (l.length<=12)
theorem Zgo (hk:k<l.length) (h:ZaY l k=false):Zaa l=false:=by
 unfold Zaa;rw[show (JN l.length).all (ZaY l)=false from List.all_eq_false.2 ⟨k,JW.2 hk,Ey⟩];rfl
theorem Ziv (h: ∀ k,k<l.length->ZaY l k=true):Zaa l=decide (l.length<=12):=by
 unfold Zaa;rw[List.all_eq_true.2 fun k a=>h k (JW.1 a)];rfl
theorem Zih (hk:l[k]? =some d):(Zn l d.name==(k:Int))=decide (Zn (l.take k) d.name<0):=
 ZmT (α:=Dfn) (f:=fun e=>e.name.toList==d.name.toList) hk Θ
def Zv6:Nat->Nat->ByteArray->ByteArray
 |0,_,acc=>acc
 |f+1,k,acc=>if k=0 then acc else Zv6 f (k/10) (strOfNums [48+(k:Int)%10]++acc)
def ZmZ (k:Nat):ByteArray:=⟨#[109]⟩++Zv6 k k ⟨#[]⟩
def ZvN (l:List ByteArray) (k:Nat):List ByteArray:=(JN l.length).map fun i=>ZmZ (k+i)
@[simp] theorem Zwt (l:List ByteArray) (k:Nat):(ZvN l k).length=l.length:=by simp[ZvN]
def Zwy (d:Dfn) (k:Nat):Dfn:=⟨ZmZ k,(k:Int)+1,ZmZ (k+2),ZmZ (k+3),⟨(k:Int)+1+1+1+1,(k:Int)+1+1+1+1+1,ZmY d.value.cells.length (k+6)⟩⟩
def ZqT (d:Dfn):Nat:=6+d.value.cells.length
def Ztg:List Dfn->Nat->List Dfn
 |[],_=>[]
 |d::r,k=>Zwy d k::Ztg r (k+ZqT d)
def ZmV (l:List Dfn):Nat:=(l.map ZqT).sum
@[simp] theorem Zul: ∀ (l:List Dfn) (k:Nat),(Ztg l k).length=l.length
 |[],_=>rfl
 |d::r,k=>by simp[Ztg,Zul r]
@[simp] theorem Zwo:ZmV []=0:=rfl
@[simp] theorem Zwg (d:Dfn) (l:List Dfn):ZmV (d::l)=ZqT d+ZmV l:=by simp[ZmV]
theorem Own.has {p:Addr} {cs:List Value} (h:Own w e sz (some p) n cap cs) (hj:j<cs.length): ∃ c,w.cell? ⟨p.block,j,none⟩=some c:=⟨_,h.cell (JR hj)⟩
theorem ZrM (l:List Dfn) (j:Nat) (d:Dfn):ZbQ (l.set j d)=(ZbQ l).set j d.value.cells:=by unfold ZbQ;rw[List.map_set]
def ZaJ (l:List Dfn) (d:Dfn):List Dfn:=if 0<=Zn l d.name then l.set (Zn l d.name).toNat d else l++[d]
def ZdP (l:List Dfn) (d:Dfn):List Dfn×Bool:=if Zaa l&&Zaa (ZaJ l d) then (ZaJ l d,true) else ([],false)
theorem Zo7 {x:Dfn} (h:x∈ZaJ l d):x∈l\/x=d:=by
 unfold ZaJ at h;split at h
 ·exact Lf h
 ·simpa using h
theorem ZoP {s:ByteArray}:Zn l s<l.length:=(Zc5 _ l).2
theorem Zpg (l:List Dfn) (d:Dfn):(ZaJ l d).length<=l.length+1:=by
 unfold ZaJ;split<;>simp
theorem ZiG (h:(Zaa l&&Zaa (ZaJ l d))=false):ZdP l d=([],false):=by unfold ZdP;rw[h];rfl
theorem Zlc (h1:Zaa l=true) (h2:Zaa (ZaJ l d)=true):ZdP l d=(ZaJ l d,true):=by unfold ZdP;rw[h1,h2];rfl
theorem Row.builtAt (n:Nat) (hg:g=w.heap.size) (hn:n<=maxLen) (hs:cs.size=n*sz) (hS: ∀ b,S b):Row (w.alloc (.cells cs e)) S sz (some ⟨g,0,none⟩) n n cs.toList:=by
 subst hg;exact Row.built n hn hs (hS _)
theorem Inner.repl {g:Option Nat} {vs:List Value} (h:Inner w F g vs xss) {xs:List Int} (ho:Own w 3 1 b xs.length c (ints xs)) (hr: ∀ x∈xs,I64 x)
  (hb: ∀ q,blk b=some q->F q/\g≠some q) (hnew: ∀ q,blk b=some q-> ∀ v∈vs,v.ownBlock≠some q):Inner w F g (vs.set j (.slice b xs.length c)) (xss.set j xs):=by
 refine ⟨by simp[h.len],fun i o f=> ?_, ?_⟩
 ·by_cases a:j=i
  ·subst a;obtain ⟨k,_⟩:=K1.1 f;simp only[KZ] at k;rw[NF k] at f;obtain rfl:=JJ f;exact ⟨b,c,by rw[NF (by rw[h.len];exact k)],ho,hr,hb⟩
  ·rw[NG a] at f;obtain ⟨r,s,t,y⟩:=h.each i o f;exact ⟨r,s,by rw[NG a];exact t,y⟩
 ·rw[LZ];intro p q l m n u d;simp only[KZ] at l m;rw[List.getElem_set] at d ⊢;split at d
  ·rename_i e;rw[if_neg I];rw[ZaI] at d;exact hnew u d _ (K7 m)
  ·split
   ·rw[ZaI];intro e;exact hnew u e _ (K7 l) d
   ·exact LZ.1 h.apart p q l m n u d
def Fresh (w0:World) (a1 am:Option Addr) (ss:List Value):Prop:= ∀ q,blk am=some q->w0.heap.size<=q/\blk a1≠some q/\ ∀ v∈ss,v.ownBlock≠some q
theorem Fresh.mk' {wr:World} (hI:Inner wr G (blk a1) ss xss) (hlo: ∀ g,blk a1=some g->g<wr.heap.size) (h0:w0.heap.size<=wr.heap.size) (hf: ∀ q,blk am=some q->wr.heap.size<=q):Fresh w0 a1 am ss:=
 fun q a=>⟨by have:=hf q a;omega,fun e=>by have:=hlo q e;have:=hf q a;omega,fun v b e=>by have:=(hI.lt b e).1;have:=hf q a;omega⟩
theorem SepD.app {w3:World} {a3:Option Addr} {c3:Nat} (hI:Inner w2 (New w0 w2) (blk a1) ss (ZbQ L)) (hl:L.length=k) (hok: ∀ x∈L,DOk x) (hlo: ∀ g,blk a1=some g->New w0 w2 g)
  (om:Own w2 3 1 am d.value.cells.length cm (ints d.value.cells)) (hr: ∀ x∈d.value.cells,I64 x) (hd:DOk d) (hfresh:Fresh w0 a1 am ss) (h0:w0.heap.size<=w2.heap.size)
  (hA:Apped w2 w3 39 7 a1 a3 (k+1) c3 (Zbc L ss++Zau d (.slice am d.value.cells.length cm))):SepD w3 (New w0 w3) a3 (k+1) c3 (L++[d]):=by
 have i:ss.length=L.length:=by have:=hI.len;simpa using this
 have n:=hA.keep.size;have j:=hA.lo (B:=w0.heap.size) I (fun g h=>(hlo g h).1);refine ⟨⟨ss++[.slice am d.value.cells.length cm], ?_, ?_⟩,by simp[hl],fun x a=> ?_,fun g h=>⟨j g h,hA.own.lt h⟩⟩
 ·rw[ZjR i,ZtQ];exact hA.own
 ·have o:=hI.snoc om hr (fun q c=>⟨⟨(hfresh q c).1,om.lt c⟩,(hfresh q c).2.1⟩) (fun q c v p l=>(hfresh q c).2.2 v p l);rw[ZoJ];refine o.move (G:=New w0 w3) (g':=blk a3) hA.keep fun b t r f=>⟨f,⟨r.1,I⟩,fun e=> ?_⟩;rcases hA.new with m|⟨g',m,s⟩
  ·rw[m] at e;exact f e
  ·rw[m] at e;obtain rfl:=JJ e;omega
 ·rcases List.mem_append.1 a with a|a
  ·exact hok x a
  ·rw[List.mem_singleton] at a;subst a;exact hd
theorem SepD.put {c1:Nat} (hO:Own w2 39 7 (some ⟨g,0,none⟩) n c1 (Zbc L ss)) (hI:Inner w2 (New w0 w2) (some g) ss (ZbQ L)) (hl:L.length=n) (hok: ∀ x∈L,DOk x) (hlo:New w0 w2 g)
  (om:Own w2 3 1 am d.value.cells.length cm (ints d.value.cells)) (hr: ∀ x∈d.value.cells,I64 x) (hd:DOk d) (hfresh:Fresh w0 (some ⟨g,0,none⟩) am ss) (hk:k<L.length):
  SepD (((((((w2.setCell ⟨g,k*7,none⟩ (.string d.name)).setCell ⟨g,k*7+1,none⟩ (Yv Yi d.op)).setCell ⟨g,k*7+2,none⟩ (.string d.a)).setCell ⟨g,k*7+3,none⟩ (.string d.b)).setCell ⟨g,k*7+4,none⟩ (Yv Yi d.value.rows)).setCell ⟨g,k*7+5,none⟩ (Yv Yi d.value.cols)).setCell ⟨g,k*7+6,none⟩ (.slice am d.value.cells.length cm)) (New w0 w2) (some ⟨g,0,none⟩) n c1 (L.set k d)/\
  Keep (fun q=>q≠g) w2 (((((((w2.setCell ⟨g,k*7,none⟩ (.string d.name)).setCell ⟨g,k*7+1,none⟩ (Yv Yi d.op)).setCell ⟨g,k*7+2,none⟩ (.string d.a)).setCell ⟨g,k*7+3,none⟩ (.string d.b)).setCell ⟨g,k*7+4,none⟩ (Yv Yi d.value.rows)).setCell ⟨g,k*7+5,none⟩ (Yv Yi d.value.cols)).setCell ⟨g,k*7+6,none⟩ (.slice am d.value.cells.length cm)):=by
 have f:ss.length=L.length:=by have:=hI.len;simpa using this
 have hK:Keep (fun q=>q≠g) w2 (((((((w2.setCell ⟨g,k*7,none⟩ (.string d.name)).setCell ⟨g,k*7+1,none⟩ (Yv Yi d.op)).setCell ⟨g,k*7+2,none⟩ (.string d.a)).setCell ⟨g,k*7+3,none⟩ (.string d.b)).setCell ⟨g,k*7+4,none⟩ (Yv Yi d.value.rows)).setCell ⟨g,k*7+5,none⟩ (Yv Yi d.value.cols)).setCell ⟨g,k*7+6,none⟩ (.slice am d.value.cells.length cm)):=
  kS
 refine ⟨⟨⟨ss.set k (.slice am d.value.cells.length cm),hO.dset f hk, ?_⟩,by simp[hl],fun x h=> ?_,fun q c=>by simp at c;subst c;exact hlo⟩,hK⟩
 ·rw[ZrM];have m:=hI.repl (j:=k) om hr (fun q c=>⟨⟨(hfresh q c).1,om.lt c⟩,by simpa using (hfresh q c).2.1⟩) (fun q c v o i=>(hfresh q c).2.2 v o i);exact m.keep hK fun b _ _ l e=>l (by rw[e])
 ·rcases Lf h with h|rfl
  ·exact hok x h
  ·exact hd
theorem SepD.nilAt (hg:g=w.heap.size) (hc:cs= #[]) (hF:F g):SepD (w.alloc (.cells cs 39)) F (some ⟨g,0,none⟩) 0 0 []:=by
 subst hc;exact ⟨⟨[],Own.freshAt hg Γ rfl,Inner.nilw⟩,rfl,(fun _ h=>Ω),fun q a=>by simp at a;subst a;exact hF⟩
theorem ZeD (a:Option Addr) (n cap:Nat) (l:List Dfn) (w:World) (h:RdD w S a n cap l) (hb:ZaE l<=1048576):
  Calls JG 19 #[.slice a n cap] w fun e w'=> ∃ a' c',e= .returned (.slice a' n c')/\SepD w' (New w w') a' n c' l/\Grow w w':=by
 have Hl:=hid h.len;unfold ZaE at hb;have hn:n<=1048576:=by rw[←Hl.out];omega
 go_enter func19,ntmps19;go_wp2;go_loopw [3,9] (fun v i wr=>Grow w wr/\ ∃ (k D:Nat) (E:Option Addr),k<=n/\i=Yv Yi k/\v= .slice E k D/\SepD wr (New w wr) E k D (l.take k)) (fun _ i _=>n-(intOf i).toNat);case atStart=>
  refine ⟨(JH w).alloc _ _,0,0,_,JI _,rfl,rfl,⟨⟨[], ?_,Inner.nilw⟩,rfl,(fun _ h=>Ω),fun g f=> ?_⟩⟩
  ·exact Own.fresh Γ rfl
  ·simp at f;subst f;exact ⟨Nat.le_refl _,Θ⟩
 case round=>
  obtain ⟨B,k,D,E,hk,rfl,rfl,F⟩:=hrel;by_cases G:k<n
  ·obtain ⟨b,ag,d,H,J,rfl,L,_,ah,⟨e0,e1,e2,e3,e4,e5,e6⟩,r1,M⟩:=(h.grow B).at G;have m:=(ZpF L).2;have N:d.value.cells.length<=1048576:=(by unfold bdD at m;omega);have Hx:=hid L;clear L m;obtain ⟨wb,x,o,y,ai⟩:=al1 wr #[.string d.name,Yv Yi d.op, .string d.a, .string d.b,Yv Yi d.value.rows,Yv Yi d.value.cols, .slice H d.value.cells.length J] 39;have O:=hid x;clear x;obtain ⟨⟨z0,z1,z2,z3,z4,z5,z6⟩, -⟩:=y.seven;have P:VM wb S (.agg #[Yv Yi d.value.rows,Yv Yi d.value.cols, .slice H d.value.cells.length J]) d.value:=⟨H,_,J,rfl,r1.grow o,M.2.2.2.2.1,M.2.2.2.2.2⟩;go_wp2_with fail;rw[←O.out];refine (Zbx P N).mono ?_;rintro e R ⟨v',rfl,⟨C,nm,T,rfl,V,xm,W,aj,ak⟩,p⟩;have X:d.value.cells.length=nm:=(by simpa using V.len);subst X;have j:=y.grow p;obtain ⟨⟨y0,y1,y2,y3,y4,y5,y6⟩, -⟩:=j.seven;have f4:=j.free 4;have f5:=j.free 5;have f6:=j.free 6;have hK:Keep (fun q=>q≠wr.heap.size) R (((R.setCell ⟨wr.heap.size,4,none⟩ (Yv Yi d.value.rows)).setCell ⟨wr.heap.size,5,none⟩ (Yv Yi d.value.cols)).setCell ⟨wr.heap.size,6,none⟩ (.slice C d.value.cells.length T)):=
    kS
   have r:Grow wr (((R.setCell ⟨wr.heap.size,4,none⟩ (Yv Yi d.value.rows)).setCell ⟨wr.heap.size,5,none⟩ (Yv Yi d.value.cols)).setCell ⟨wr.heap.size,6,none⟩ (.slice C d.value.cells.length T)):=(o.trans p).keep hK fun q hq=>I;have Y:=V.keep hK (fun g f _ e=>by have:=(W g f).1;omega);have Z: ∀ q,blk C=some q->wr.heap.size<=q:=fun q hq=>(by have:=(W q hq).1;omega);have aa:=B.size;clear p o hK V W j;obtain ⟨⟨ss,hO,hI⟩,ab,z,c⟩:=F;have ad:=hO.grow r;go_wp2_with (at_builtin;refine ZD rfl (.tmp 17) (.tmp 19) _ rfl T_defs rfl (ad.grow ((JH _).alloc _ _)) rfl (Row.builtAt (S:=fun _=>True) 1 Θ Γ rfl fun _=>trivial) γ I Γ ?_;intro a3 c3 w3 s);have t:=r.alloc #[.string d.name,Yv Yi d.op, .string d.a, .string d.b,Yv Yi d.value.rows,Yv Yi d.value.cols, .slice C d.value.cells.length T] 39;have A:=SepD.app ((hI.grow t).weak fun b hb hF ae=>⟨⟨hF.1,hb⟩,ae⟩) ab z (fun g f=>⟨(c g f).1,Lj (c g f).2 t.size⟩) (Y.grow ((JH _).alloc _ _)) r1.rng M (Fresh.mk' hI (fun g f=>(c g f).2) aa Z) (by have:=t.size;omega) s;have af:Grow w w3:=s.grow (B.trans (r.alloc _ _)) (fun g f=>(c g f).1);rw[←ZH Hx.out] at A;clear s;go_wp2;go_roundw;case rel=>exact ⟨af,k+1,c3,a3,I,Δ,rfl,A⟩
   case measure=>exact FN
  ·go_wp2;go_ret;have:k=n:=I;subst this;rw[Z5 Hl.out] at F;exact ⟨_,_,rfl,F,B⟩
theorem ZmU (a:Option Addr) (n cap:Nat) (l:List Dfn) (w:World) (h:RdD w S a n cap l) (hn:n<=1048576) (hcl: ∀ d∈l,d.value.cells.length<=2097152):
  Calls JG 20 #[.slice a n cap] w fun e w'=>e= .returned (.bool (Zaa l))/\Grow w w':=by
 have Hl:=hid h.len;go_enter func20,ntmps20;go_wp2;go_loopw [3] (fun i wr=>Grow w wr/\ ∃ k:Nat,k<=n/\i=Yv Yi k/\ ∀ j,j<k->ZaY l j=true) (fun i _=>n-(intOf i).toNat);case atStart=>exact ⟨JH _,0,JI _,rfl,fun j hj=>I⟩
 case round=>
  obtain ⟨hG,k,F,rfl,A⟩:=hrel;have He:=hid A;clear A;by_cases r:k<n
  ·have v:=h.grow hG;have m:=v.pre (k:=k) I;obtain ⟨b,x,d,G,H,rfl,s,_,C,hd1,y,z⟩:=v.at r;have o:=hcl d (JX s);have f:ZaY l k=(Z9 d&&decide (Zn (l.take k) d.name<0)):=(by unfold ZaY;rw[s]);have J:=T_defs.atH (a:=some (⟨b,x,none⟩:Addr)) (n:=n) (cap:=cap) (k:=k) (i:=k) rfl (by have:=v.cap_le;omega);have L:=hid s;clear s;have hkl:=hid (show k<l.length by rw[Hl.out];exact r);cases p:Z9 d with
   |false=>have t:=hid p;have HF:=hid (show ZaY l k=false by rw[f,p];rfl);clear p f;go_wp2;refine ZaH [([0,1,2,3],some 4),([5,6,7,8,9,10,11,12,13,14],some 15),([16,17],none)] ?_;refine ZkP hd1.1 ?_;intro K hK;refine (ZdX (d:=d) ⟨_,_,_,rfl,y.grow (JH _).drew,z⟩ o).mono ?_;rintro e B ⟨rfl,c⟩;have hGx:=(JH wr).drew.trans c;clear c;rw[t.out];go_wp2_with fail;refine hK _ _ (hGx) ?_;clear hK K;refine ZmW hd1.1 ?_;refine Zdz rfl (hGx) ?_;exact Jc
   |true=>
    have t:=hid p;by_cases M:0<=Zn (l.take k) d.name
    ·have HF:=hid (show ZaY l k=false by rw[f,decide_eq_false I];simp);clear p f;generalize g:Zn (l.take k) d.name=D at *;have q:=hid g;clear g;go_wp2;refine ZaH [([0,1,2,3],some 4),([5,6,7,8,9,10,11,12,13,14],some 15),([16,17],none)] ?_;refine ZkP hd1.1 ?_;intro K hK;refine (ZdX (d:=d) ⟨_,_,_,rfl,y.grow (JH _).drew,z⟩ o).mono ?_;rintro e B ⟨rfl,c⟩;have hGx:=(JH wr).drew.trans c;clear c;rw[t.out];go_wp2_with fail;refine hK _ _ (hGx) ?_;clear hK K;refine ZkP hd1.1 ?_;intro K hK;refine (Zd2 _ _ _ (l.take k) d.name _ (m.grow hGx) I).mono ?_;rintro e E ⟨rfl,rfl⟩;rw[q.out];go_wp2_with fail;refine hK _ _ (hGx) ?_;clear hK K;exact Jc
    ·have HF:=hid (show ZaY l k=true by rw[f,p,decide_eq_true I];rfl);clear p f;generalize g:Zn (l.take k) d.name=D at *;have q:=hid g;clear g;go_wp2;refine ZaH [([0,1,2,3],some 4),([5,6,7,8,9,10,11,12,13,14],some 15),([16,17],none)] ?_;refine ZkP hd1.1 ?_;intro K hK;refine (ZdX (d:=d) ⟨_,_,_,rfl,y.grow (JH _).drew,z⟩ o).mono ?_;rintro e B ⟨rfl,c⟩;have hGx:=(JH wr).drew.trans c;clear c;rw[t.out];go_wp2_with fail;refine hK _ _ (hGx) ?_;clear hK K;refine ZkP hd1.1 ?_;intro K hK;refine (Zd2 _ _ _ (l.take k) d.name _ (m.grow hGx) I).mono ?_;rintro e E ⟨rfl,rfl⟩;rw[q.out];go_wp2_with fail;refine hK _ _ (hGx) ?_;clear hK K;refine ZmW hd1.1 ?_;refine Ze ?_;go_wp2;go_roundw;case rel=>
      refine ⟨hG.trans hGx,k+1,I,Δ,fun j hj=> ?_⟩;rcases Pw.1 hj with hj|rfl
      ·exact He.out j hj
      ·exact HF.out
     case measure=>exact FN
  ·go_wp2;exact Im
def DepOk (l:List Dfn) (out:List ByteArray):Prop:=out.Nodup/\ ∀ s∈out,s∈l.map (·.name)
theorem DepOk.len {out:List ByteArray} (h:DepOk l out):out.length<=l.length:=by
 have:=ZnZ h.1 h.2;exact Ji
theorem Zri (h:Zaa l=true):l.length<=12:=by
 unfold Zaa at h;rw[Bool.and_eq_true,decide_eq_true_eq] at h;exact h.2
theorem Zq2 (hb:ZaE l<=1048576): ∀ d∈l,d.value.cells.length<=2097152:=by
 intro d a;obtain ⟨k,b,c⟩:=List.mem_iff_getElem.1 a;have e:=(ZpF (K1.2 ⟨b,c⟩)).2;unfold ZaE at hb;unfold bdD at e;omega
theorem Zc3 (a:Option Addr) (n cap:Nat) (l:List Dfn) (w:World) (h:RdD w S a n cap l) (hn:n<=1048576) (hcl: ∀ d∈l,d.value.cells.length<=2097152):
  Calls JG 57 #[.slice a n cap] w fun e w'=>e= .returned (.bool (Zaa l))/\Grow w w':=by
 have Hl:=hid h.len;go_enter func57,ntmps57;go_wp2;go_loopw [7] (fun i wr=>Grow w wr/\ ∃ k:Nat,k<=n/\i=Yv Yi k/\ ∀ j,j<k->ZaY l j=true) (fun i _=>n-(intOf i).toNat);case atStart=>exact ⟨JH _,0,JI _,rfl,fun j hj=>I⟩
 case round=>
  obtain ⟨hG,k,P,rfl,G⟩:=hrel;have He:=hid G;clear G;by_cases o:k<n
  ·obtain ⟨b,H,d,J,L,rfl,p,_,M,⟨R,T,V,W,X,Y,Z⟩,N,O⟩:=(h.grow hG).at o;have z:=hcl d (JX p);have c:=Zih p;have q:ZaY l k=(Z9 d&&decide (Zn (l.take k) d.name<0)):=(by unfold ZaY;rw[p]);have Hx:=hid p;clear p;have A:=hid q;clear q;have Hs:=hid c;clear c;have r:=hid (show k<l.length by rw[Hl.out];exact o);obtain ⟨wb,s,f,B, -⟩:=al1 wr #[.string d.name,Yv Yi d.op, .string d.a, .string d.b,Yv Yi d.value.rows,Yv Yi d.value.cols, .slice J d.value.cells.length L] 39;have C:=hid s;clear s;go_wp2_with fail;rw[←C.out];refine (ZgY (d:=d) ⟨_,_,_,rfl,N.grow f,O⟩ z).mono ?_;rintro e w1 ⟨rfl,g⟩;have t:=B.grow g;obtain ⟨⟨z0,z1,z2,z3,z4,z5,z6⟩, -⟩:=t.seven;cases x:Z9 d with
   |false=>have y:=hid x;clear x;go_wp2;go_ret;exact ⟨Zm (Zgo r.out (by rw[A.out,y.out];rfl)).symm,(hG.trans f).trans g⟩
   |true=>
    have y:=hid x;clear x;go_wp2_with fail;refine (Zd0 _ _ _ l d.name _ (((h.grow hG).grow f).grow g) I).mono ?_;rintro e w2 ⟨rfl,D⟩;have v:=((hG.trans f).trans g).trans D;cases m:(Zn l d.name==(k:Int)) with
    |false=>have E:(Zn l d.name !=(k:Int))=true:=(by simp[bne,m]);have F:=hid m;clear m;go_wp2;go_ret;exact ⟨Zm (Zgo r.out (by rw[A.out,y.out, ←Hs.out,F.out];rfl)).symm,v⟩
    |true=>
     have E:(Zn l d.name !=(k:Int))=false:=(by simp[bne,m]);have F:=hid m;clear m;go_wp2;go_roundw;case rel=>
      refine ⟨v,k+1,I,Δ,fun j hj=> ?_⟩;rcases Pw.1 hj with hj|rfl
      ·exact He.out j hj
      ·rw[A.out,y.out, ←Hs.out,F.out];rfl
     case measure=>exact FN
  ·go_wp2;exact Im
theorem Zoc (a:Option Addr) (n cap:Nat) (l:List Dfn) (dv:Value) (d:Dfn) (w:World) (h:RdD w S a n cap l) (hd:VD w T dv d) (hb:ZaE l<=1048576) (hbd:bdD d<=1048576):
  Calls JG 26 #[.slice a n cap,dv] w fun e w'=> ∃ r,e= .returned (.tuple #[r, .bool (ZdP l d).2])/\ODD w' (New w w') r (ZdP l d).1/\Grow w w':=by
 have Hl:=hid h.len;have H:=Zq2 hb;have hn:n<=1048576:=by unfold ZaE at hb;rw[←Hl.out];omega
 obtain ⟨av,nv,cv,rfl,hv,B⟩:=hd;have ai:d.value.cells.length=nv:=hv.len;subst ai;have aj:d.value.cells.length<=1048576:=by unfold bdD at hbd;omega
 obtain ⟨w0,X,s,ak,ax⟩:=al1 w #[.string d.name,Yv Yi d.op, .string d.a, .string d.b,Yv Yi d.value.rows,Yv Yi d.value.cols, .slice av d.value.cells.length cv] 39;have Y:=hid X;clear X;cases R:Zaa l with
 |false=>
  have HN:=hid (ZiG (l:=l) (d:=d) (by rw[R];rfl));have HS:=hid R;clear R;go_enter Py,Pz;go_wp2_with fail;rw[←Y.out];refine (Zc3 _ _ _ l _ (h.grow s) hn H).mono ?_;rintro e w1 ⟨rfl,o⟩;rw[HS.out];have hsz:=(s.trans o).size;go_wp2
  go_ret2
  exact ⟨_,Ah,⟨_,_,_,rfl,Cg⟩,(s.trans o).alloc _ _⟩
 |true=>
  have HS:=hid R;have ar:=Zri R;clear R;generalize C:Zn l d.name=V at *;have f:ZaJ l d=if 0<=V then l.set V.toNat d else l++[d]:=by unfold ZaJ;rw[C]
  have ay:V<l.length:=by rw[←C];exact ZoP
  have al:=hid C;clear C;go_enter Py,Pz;go_wp2_with fail;rw[←Y.out];refine (Zc3 _ _ _ l _ (h.grow s) hn H).mono ?_;rintro e w1 ⟨rfl,o⟩;rw[HS.out];go_wp2_with fail;refine (ZeD _ _ _ l _ (h.grow (s.trans o)) hb).mono ?_;rintro e w2 ⟨a1,c1,rfl,an,J⟩;have Z:=(s.trans o).trans J;have az:=o.size;have a0:=J.size;have L:=(ak.grow o).grow J;obtain ⟨⟨z0,z1,z2,z3,z4,z5,z6⟩, -⟩:=L.seven;have aa:VM w2 T (.agg #[Yv Yi d.value.rows,Yv Yi d.value.cols, .slice av d.value.cells.length cv]) d.value:=⟨av,_,cv,rfl,hv.grow Z,B.2.2.2.2.1,B.2.2.2.2.2⟩;go_wp2_with fail;refine (Zbx aa aj).mono ?_;rintro e w3 ⟨v',rfl,⟨am,nm,cm,rfl,om,xm,fm,a2,a4⟩,y⟩;have ao:d.value.cells.length=nm:=by simpa using om.len
  subst ao;have a5:=y.size;have t:=L.grow y;obtain ⟨⟨y0,y1,y2,y3,y4,y5,y6⟩, -⟩:=t.seven;have f4:=t.free 4;have f5:=t.free 5;have f6:=t.free 6;have hK:Keep (fun q=>q≠w.heap.size) w3 (((w3.setCell ⟨w.heap.size,4,none⟩ (Yv Yi d.value.rows)).setCell ⟨w.heap.size,5,none⟩ (Yv Yi d.value.cols)).setCell ⟨w.heap.size,6,none⟩ (.slice am d.value.cells.length cm)):=
   kS
  have M:=(Z.trans y).keep hK fun q W=>I
  have ab:=om.keep hK (fun g v _ e=>by have:=(fm g v).1;omega);have ad: ∀ q,blk am=some q->w2.heap.size<=q:=fun q W=>(fm q W).1;have N:=((t.set 4 (Yv Yi d.value.rows)).set 5 (Yv Yi d.value.cols)).set 6 (.slice am d.value.cells.length cm);simp only[List.setIfInBounds_toArray,List.set_cons_succ,List.set_cons_zero] at N;go_wp2_with fail;refine (Zd0 _ _ _ l d.name _ (h.grow M) I).mono ?_;rintro e w4 ⟨rfl,z⟩;rw[al.out];have D:Keep (fun q=>q≠w.heap.size) w2 w4:=(y.mono fun _ _ _=>trivial).trans (hK.trans (z.mono fun _ _ _=>trivial));have a6:=D.size;obtain ⟨⟨ss,hO,hI⟩,ae,F,i⟩:=an;have af:Fresh w a1 am ss:=Fresh.mk' hI (fun g v=>(i g v).2) I ad;have c:=hO.keep D (fun g v _ e=>by have:=(i g v).1;omega);have A:Inner w4 (New w w4) (blk a1) ss (ZbQ l):=(hI.keep D (fun b hb hF _ e=>by have:=hF.1;omega)).weak fun b hb hF O=>⟨⟨by have:=hF.1;omega,hb⟩,O⟩;have m: ∀ g,blk a1=some g->New w w4 g:=fun g v=>⟨by have:=(i g v).1;omega,by have:=(i g v).2;omega⟩;have ag:=ab.grow z;have G:=M.trans z;have hclS: ∀ x∈ZaJ l d,x.value.cells.length<=2097152:=fun x hx=>by
   rcases Zo7 hx with hx|rfl
   ·exact H x hx
   ·omega
  have ap:=N.grow z;have a7:=Hl.out;obtain ⟨⟨y0,y1,y2,y3,y4,y5,y6⟩, -⟩:=ap.seven;clear hO hI i om t L f4 f5 f6 z0 z1 z2 z3 z4 z5 z6 aa hK D ab ad N M y z fm;by_cases W:0<=V
  ·obtain ⟨k,rfl⟩: ∃ k:Nat,V=k:=⟨V.toNat,I⟩;rw[if_pos W] at f;simp only[Int.toNat_natCast] at f;have aq:k<l.length:=I;cases a1 with
   |none=>have:=c.nil rfl;have:=c.le;omega
   |some p=>
    have hp:=(c.block p rfl).1;obtain ⟨pb,po,ps⟩:=p;simp only[Addr.mk.injEq,true_and] at hp;obtain ⟨rfl,rfl⟩:=hp;have aw:(Zbc l ss).length=l.length*7:=Zn7 (by have:=A.len;simpa using this);obtain ⟨c0,e0⟩:=c.has (j:=k*7) I;obtain ⟨a8,e1⟩:=c.has (j:=k*7+1) I;obtain ⟨c2,e2⟩:=c.has (j:=k*7+2) I;obtain ⟨c3,e3⟩:=c.has (j:=k*7+3) I;obtain ⟨c4,e4⟩:=c.has (j:=k*7+4) I;obtain ⟨c5,e5⟩:=c.has (j:=k*7+5) I;obtain ⟨c6,e6⟩:=c.has (j:=k*7+6) I;have f0:=c.free (k*7);have f1:=c.free (k*7+1);have f2:=c.free (k*7+2);have f3:=c.free (k*7+3);have f4:=c.free (k*7+4);have f5:=c.free (k*7+5);have f6:=c.free (k*7+6);simp only at e0 e1 e2 e3 e4 e5 e6 f0 f1 f2 f3 f4 f5 f6;obtain ⟨hS5,ah⟩:=SepD.put c A ae F (m pb rfl) ag hv.rng B af aq;rw[←f] at hS5;have hGW:=G.keep ah fun q W e=>(by have:=(m pb rfl).1;omega);have a9:=ah.size;clear c A f;go_wp2_with fail;exact Gu
  ·rw[if_neg W] at f;go_wp2_with (at_builtin;refine ZD rfl (.tmp 28) (.tmp 30) _ rfl T_defs rfl (c.grow ((JH _).alloc _ _)) rfl (Row.builtAt (S:=fun _=>True) 1 Θ Γ rfl fun _=>trivial) γ I Γ ?_;intro a3 c3 w5 P);have E:=(JH w4).alloc #[.string d.name,Yv Yi d.op, .string d.a, .string d.b,Yv Yi d.value.rows,Yv Yi d.value.cols, .slice am d.value.cells.length cm] 39;have hS5:=SepD.app ((A.grow E).weak fun b hb hF O=>⟨⟨hF.1,hb⟩,O⟩) ae F (fun g v=>⟨(m g v).1,Lj (m g v).2 E.size⟩) (ag.grow E) hv.rng B af (by have:=E.size;omega) P;rw[←f] at hS5;have hGW:Grow w w5:=P.grow (G.alloc _ _) (fun g v=>(m g v).1);clear c A f P;go_wp2_with fail;exact Gu
theorem Zby:StT JG 32 2:=⟨_,underlying32,Ξ⟩
theorem Zp4:SlT JG 30 26 (.slice none 0 0) 1 24:=SlT.mk' underlying30 Ξ rfl
def SesC (w:World) (S:Nat->Prop) (ss:List Value) (P:List (List Dfn)):Prop:= ∀ (i:Nat) (p:List Dfn),P[i]? =some p-> ∃ b k c,ss[i]? =some (.slice b k c)/\RdD w S b k c p
theorem SesC.keep (h:SesC w S ss P) (hk:Keep T w w') (hST: ∀ b,b<w.heap.size->S b->T b):SesC w' S ss P:=fun i p a=>by
 obtain ⟨b,k,c,d,e⟩:=h i p a;exact ⟨b,k,c,d,e.keep hk hST⟩
theorem SesC.weak (h:SesC w S ss P) (hST: ∀ b,b<w.heap.size->S b->T b):SesC w T ss P:=fun i p a=>by
 obtain ⟨b,k,c,d,e⟩:=h i p a;exact ⟨b,k,c,d,e.weak hST⟩
theorem SesC.snoc (h:SesC w S ss P) (hl:ss.length=P.length) (hp:RdD w S b k c p):SesC w S (ss++[.slice b k c]) (P++[p]):=fun i q hi=>by
 by_cases a:i<P.length
 ·rw[List.getElem?_append_left a] at hi;obtain ⟨e,f,g,h1,j⟩:=h i q hi;exact ⟨e,f,g,Cv,j⟩
 ·rw[KS I] at hi;have d:i-P.length=0:=by have:=(K1.1 hi).1;simp at this;omega
  rw[d] at hi;obtain rfl:p=q:=Fy
  exact ⟨b,k,c,by rw[KS I,hl,d];rfl,hp⟩
theorem SesC.nil:SesC w S [] []:=fun i p h=>ν
theorem SesC.take (h:SesC w S ss P) (k:Nat):SesC w S (ss.take k) (P.take k):=fun i p d=>by
 have a:i<k:=by have:=(K1.1 d).1;rw[List.length_take] at this;omega
 rw[Oa a] at d;obtain ⟨b,j,c,e,f⟩:=h i p d;exact ⟨b,j,c,by rw[Oa a];exact e,f⟩
structure RdP (w:World) (S:Nat->Prop) (a:Option Addr) (n cap:Nat) (P:List (List Dfn)):Prop where
 row: ∃ ss:List Value,Row w S 1 a n cap ss/\SesC w S ss P
 len:P.length=n
theorem RdP.keep (h:RdP w S a n cap P) (hk:Keep T w w') (hST: ∀ b,b<w.heap.size->S b->T b):RdP w' S a n cap P:=by
 obtain ⟨⟨c,d,e⟩,f⟩:=h;exact ⟨⟨c,d.keep hk hST,e.keep hk hST⟩,f⟩
theorem RdP.grow (h:RdP w S a n cap P) (hk:Grow w w'):RdP w' S a n cap P:=h.keep hk fun _ _ _=>trivial
theorem RdP.weak (h:RdP w S a n cap P) (hST: ∀ b,b<w.heap.size->S b->T b):RdP w T a n cap P:=by
 obtain ⟨⟨c,d,e⟩,f⟩:=h;exact ⟨⟨c,d.weak hST,e.weak hST⟩,f⟩
theorem RdP.at (h:RdP w S a n cap P) (hk:k<n):
  ∃ b off p pb pn pc,a=some ⟨b,off,none⟩/\P[k]? =some p/\S b/\b<w.heap.size/\w.cell? ⟨b,off+k,none⟩=some (.slice pb pn pc)/\RdD w S pb pn pc p:=by
 obtain ⟨⟨q,g,i⟩,r⟩:=h;have c:k<P.length:=I
 obtain ⟨pb,pn,pc,d,j⟩:=i k _ (JR c);obtain ⟨b,off,l,m,o⟩:=g.addr (by intro e;subst e;simp at d);have f:=o k _ d;exact ⟨b,off,_,pb,pn,pc,l,JR c,m,World.block_lt_of_cell? w _ f,f,j⟩
theorem RdP.pre (h:RdP w S a n cap P) (hk:k<=n):RdP w S a k cap (P.take k):=by
 obtain ⟨⟨b,c,d⟩,e⟩:=h;refine ⟨⟨b.take (k*1),c.pre hk, ?_⟩,Ψ⟩;rw[Nat.mul_one];exact d.take k
structure OwP (w:World) (F:Nat->Prop) (a:Option Addr) (n cap:Nat) (P:List (List Dfn)):Prop where
 own: ∃ ss:List Value,ss.length=P.length/\Own w 26 1 a n cap ss/\SesC w (fun q=>F q/\blk a≠some q) ss P
 len:P.length=n
 low: ∀ g,blk a=some g->F g
theorem OwP.keep (h:OwP w F a n cap P) (hk:Keep T w w') (hT: ∀ b,b<w.heap.size->F b->T b):OwP w' F a n cap P:=by
 obtain ⟨⟨e,f,i,j⟩,k,d⟩:=h;exact ⟨⟨e,f,i.keep hk (fun g l c=>hT g c (d g l)),j.keep hk fun b m o=>hT b m o.1⟩,k,d⟩
theorem OwP.grow (h:OwP w F a n cap P) (hk:Grow w w'):OwP w' F a n cap P:=h.keep hk fun _ _ _=>trivial
theorem OwP.weak (h:OwP w F a n cap P) (hG: ∀ b,b<w.heap.size->F b->G b):OwP w G a n cap P:=by
 obtain ⟨⟨f,i,c,j⟩,k,l⟩:=h;exact ⟨⟨f,i,c,j.weak fun b m d=>⟨hG b m d.1,d.2⟩⟩,k,fun g e=>hG g (c.lt e) (l g e)⟩
theorem OwP.rd (h:OwP w F a n cap P) (hS: ∀ b,F b->S b):RdP w S a n cap P:=by
 obtain ⟨⟨c,k,d,e⟩,f,g⟩:=h;exact ⟨⟨c,d.row fun q i=>hS q (g q i),e.weak fun b _ j=>hS b j.1⟩,f⟩
theorem OwP.nilw:OwP w F none 0 0 []:=⟨⟨[],rfl,Own.nilw,SesC.nil⟩,rfl,fun g hg=>Ci⟩
theorem OwP.app {wa w9:World} {B c9:Nat} {a9:Option Addr} (h0:ss.length=P.length) (hC:SesC wa (fun q=>F q/\blk a≠some q) ss P) (hlow: ∀ g,blk a=some g->F g) (hp:RdD wa (fun q=>F q/\blk a≠some q) b k c p) (hl:P.length=n) (hF: ∀ q,B<=q->F q) (hB:B<=wa.heap.size)
  (hA:Apped wa w9 26 1 a a9 (n+1) c9 (ss++[.slice b k c])):OwP w9 F a9 (n+1) c9 (P++[p]):=by
 have i: ∀ q,q<wa.heap.size->blk a≠some q->blk a9≠some q:=fun q h d e=>by
  rcases hA.new with f|⟨m,f,j⟩
  ·rw[f] at e;exact d e
  ·rw[f] at e;have:=JJ e;omega
 refine ⟨⟨ss++[.slice b k c],Av,hA.own, ?_⟩,by simp[hl],fun g l=> ?_⟩
 ·have o:=(hC.snoc h0 hp);have r:=(o.weak (T:=fun q=>(F q/\blk a9≠some q)/\blk a≠some q) fun q h d=>⟨⟨d.1,i q h d.2⟩,d.2⟩).keep hA.keep fun q _ d=>d.2;exact r.weak fun q _ d=>d.1
 ·rcases hA.new with f|⟨m,f,j⟩
  ·exact hlow g (by rw[←f];exact l)
  ·rw[f] at l;have:=JJ l;exact hF g I
def VSes (w:World) (S:Nat->Prop) (v:Value) (D:List Dfn) (P:List (List Dfn)):Prop:= ∃ da dn dc pa pn pc,v= .agg #[.slice da dn dc, .slice pa pn pc]/\RdD w S da dn dc D/\RdP w S pa pn pc P
theorem VSes.keep (h:VSes w S v D P) (hk:Keep T w w') (hST: ∀ b,b<w.heap.size->S b->T b):VSes w' S v D P:=by
 obtain ⟨a,c,d,f,g,i,e,j,k⟩:=h;exact ⟨a,c,d,f,g,i,e,j.keep hk hST,k.keep hk hST⟩
theorem VSes.grow (h:VSes w S v D P) (hk:Grow w w'):VSes w' S v D P:=h.keep hk fun _ _ _=>trivial

end Go.Proofs.YtgjefeiddfjjnaaGreatDoor
