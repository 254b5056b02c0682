/- The laws' helpers on []int: copying, measuring, comparing, marking. -/
import Derived.Test.YtgjefeiddfjjnaaGreatDoorZBase
set_option maxHeartbeats 8000000
set_option maxRecDepth 100000
namespace Go.Proofs.YtgjefeiddfjjnaaGreatDoor
open Go.RowKit
open Lib (hid)
open Go.Value renaming int->Yv
open Go.IntKind renaming i64->Yi
open IntWalk renaming i64_in->Kh
open List renaming getElem?_append_left->Lc,getElem?_eq_getElem->JR,getElem?_eq_some_iff->K1,pairwise_iff_getElem->LZ,replicate->Ko
open Nat renaming mul_le_mul->JL
open Go.Proofs.Tryz renaming prog->JG
open Go.Proofs.Tryz
variable {F G S T:Nat->Prop} {a b:Option Addr} {c cap k n:Nat} {g g':Option Nat} {l xss:List (List Int)} {v:Value} {vs:List Value} {w w':World} {xs:List Int}
def Zlb (xs ys:List Int):Bool:=decide (xs=ys)
def ZmY (n k:Nat):List Int:=(List.range n).map fun (i:Nat)=>((k+i:Nat):Int)
@[simp] theorem Zwq (n k:Nat):(ZmY n k).length=n:=by simp[ZmY]
structure Inner (w:World) (F:Nat->Prop) (g:Option Nat) (vs:List Value) (xss:List (List Int)):Prop where
 len:vs.length=xss.length
 each: ∀ (i:Nat) (xs:List Int),xss[i]? =some xs-> ∃ b c,vs[i]? =some (Value.slice b xs.length c)/\Own w 3 1 b xs.length c (ints xs)/\(∀ x∈xs,I64 x)/\ ∀ h,blk b=some h->F h/\g≠some h
 apart:vs.Pairwise fun u v=> ∀ h,u.ownBlock=some h->v.ownBlock≠some h
theorem ZaI (b:Option Addr) (n c:Nat):(Value.slice b n c).ownBlock=blk b:=by cases b<;>rfl
theorem Inner.nilw:Inner w F g [] []:=⟨rfl,fun i a h=>ν, .nil⟩
theorem Inner.keep (h:Inner w F g vs xss) (hk:Keep T w w') (hT: ∀ b,b<w.heap.size->F b->g≠some b->T b):Inner w' F g vs xss:=by
 refine ⟨h.len,fun i f j=> ?_,h.apart⟩;obtain ⟨b,c,k,l,m,a⟩:=h.each i f j;exact ⟨b,c,k,l.keep hk (fun q e d=>hT q d (a q e).1 (a q e).2),m,a⟩
theorem Inner.grow (h:Inner w F g vs xss) (hk:Grow w w'):Inner w' F g vs xss:=h.keep hk fun _ _ _ _=>trivial
theorem Inner.weak (h:Inner w F g vs xss) (hF: ∀ b,b<w.heap.size->F b->g≠some b->G b/\g'≠some b):Inner w G g' vs xss:=by
 refine ⟨h.len,fun i f j=> ?_,h.apart⟩;obtain ⟨b,c,k,d,l,e⟩:=h.each i f j;exact ⟨b,c,k,d,l,fun q a=>hF q (d.lt a) (e q a).1 (e q a).2⟩
theorem Inner.move (h:Inner w F g vs xss) (hk:Keep T w w') (hT: ∀ b,b<w.heap.size->F b->g≠some b->T b/\G b/\g'≠some b):Inner w' G g' vs xss:=by
 refine ⟨h.len,fun i j k=> ?_,h.apart⟩;obtain ⟨b,c,l,f,m,d⟩:=h.each i j k;exact ⟨b,c,l,f.keep hk (fun q a e=>(hT q e (d q a).1 (d q a).2).1),m,fun q a=>(hT q (f.lt a) (d q a).1 (d q a).2).2⟩
theorem Inner.snoc (h:Inner w F g vs xss) (ho:Own w 3 1 b xs.length c (ints xs)) (hr: ∀ x∈xs,I64 x)
  (hb: ∀ q,blk b=some q->F q/\g≠some q) (hnew: ∀ q,blk b=some q-> ∀ v∈vs,v.ownBlock≠some q):Inner w F g (vs++[.slice b xs.length c]) (xss++[xs]):=by
 refine ⟨by simp[h.len],fun i f hi=> ?_, ?_⟩
 ·by_cases a:i<xss.length
  ·rw[Lc a] at hi;obtain ⟨j,k,l,m⟩:=h.each i f hi;exact ⟨j,k,by rw[Lc (by rw[h.len];exact a)];exact l,m⟩
  ·rw[List.getElem?_append_right I] at hi;have:i-xss.length=0:=by
    exact IY
   rw[this] at hi;obtain rfl:xs=f:=Fy;have d:i=vs.length:=(by rw[h.len];omega);subst d;exact ⟨b,c,Θ,ho,hr,hb⟩
 ·rw[List.pairwise_append];refine ⟨h.apart,List.pairwise_singleton _ _,fun u n v o q p=> ?_⟩;obtain rfl:=List.mem_singleton.1 o;rw[ZaI];intro e;exact hnew q e u n p
theorem Inner.lt (h:Inner w F g vs xss) (hv:v∈vs) {q:Nat} (hq:v.ownBlock=some q):q<w.heap.size/\F q/\g≠some q:=by
 obtain ⟨i,d,rfl⟩:=List.mem_iff_getElem.1 hv;have a:i<xss.length:=by rw[←h.len];exact d
 obtain ⟨b,c,e,f,_,j⟩:=h.each i _ (JR a);rw[JR d] at e;have k:=Option.some.inj e;rw[k,ZaI] at hq;exact ⟨f.lt hq,j q hq⟩
theorem Inner.rdII (h:Inner w F g vs xss) (hr:Row w S 1 a n cap vs) (hS: ∀ b,F b->g≠some b->S b):RdII w S a n cap xss:=by
 refine ⟨⟨vs,hr,fun i xs hi=> ?_⟩,by have:=h.len;have:=hr.len;omega⟩;exact IL
structure SepII (w:World) (F:Nat->Prop) (a:Option Addr) (n cap:Nat) (xss:List (List Int)):Prop where
 own: ∃ vs,Own w 35 1 a n cap vs/\Inner w F (blk a) vs xss
 lo: ∀ g,blk a=some g->F g
theorem SepII.keep (h:SepII w F a n cap xss) (hk:Keep T w w') (hT: ∀ b,b<w.heap.size->F b->T b):SepII w' F a n cap xss:=by
 obtain ⟨⟨e,f,i⟩,d⟩:=h;exact ⟨⟨e,f.keep hk (fun g j c=>hT g c (d g j)),i.keep hk (fun b k l _=>hT b k l)⟩,d⟩
theorem SepII.grow (h:SepII w F a n cap xss) (hk:Grow w w'):SepII w' F a n cap xss:=h.keep hk fun _ _ _=>trivial
theorem SepII.weak (h:SepII w F a n cap xss) (hF: ∀ b,b<w.heap.size->F b->G b):SepII w G a n cap xss:=by
 obtain ⟨⟨i,e,j⟩,k⟩:=h;exact ⟨⟨i,e,j.weak fun b l c d=>⟨hF b l c,d⟩⟩,fun g f=>hF g (e.lt f) (k g f)⟩
theorem SepII.rdII (h:SepII w F a n cap xss) (hS: ∀ b,F b->S b):RdII w S a n cap xss:=by
 obtain ⟨⟨j,c,d⟩,e⟩:=h;exact d.rdII (c.row fun g f=>hS g (e g f)) fun b i _=>hS b i
theorem SepII.len (h:SepII w F a n cap xss):xss.length=n:=by
 obtain ⟨⟨d,b,c⟩,e⟩:=h;have:=b.len;have:=c.len;omega
def New (w w':World) (g:Nat):Prop:=w.heap.size<=g/\g<w'.heap.size
def total (xss:List (List Int)):Nat:=(xss.map List.length).sum
@[simp] theorem Zwn:total []=0:=rfl
@[simp] theorem ZqF (xs:List Int) (r:List (List Int)):total (xs::r)=xs.length+total r:=by simp[total]
theorem ZiQ (l r:List (List Int)):total (l++r)=total l+total r:=by simp[total]
theorem Zgs (h:xss[k]? =some xs):total (xss.take (k+1))=total (xss.take k)+xs.length:=by
 rw[ZH h,ZiQ];simp
theorem ZmP (xss:List (List Int)) (k:Nat):total (xss.take k)<=total xss:=by
 conv=>rhs;rw[←List.take_append_drop k xss]
 rw[ZiQ];omega
theorem Zuo (h:xss[k]? =some xs):total (xss.take k)+xs.length<=total xss:=by
 rw[←Zgs h];exact ZmP _ _
def Zir:List (List Int)->Nat->List (List Int)
 |[],_=>[]
 |xs::r,k=>ZmY xs.length k::Zir r (k+xs.length)
@[simp] theorem ZqB: ∀ (xss:List (List Int)) (k:Nat),(Zir xss k).length=xss.length
 |[],_=>rfl
 |xs::r,k=>by simp[Zir,ZqB r]
@[simp] theorem Znb: ∀ (xss:List (List Int)) (k:Nat),total (Zir xss k)=total xss
 |[],_=>rfl
 |xs::r,k=>by simp[Zir,Znb r]
theorem Inner.put (h:Inner w F g vs xss) {j:Nat} {ys:List Int} (hv:vs[j]? =some (Value.slice b xs.length c)) (hx:xss[j]? =some xs) (hlen:ys.length=xs.length)
  (ho:Own w' 3 1 b xs.length c (ints ys)) (hr: ∀ x∈ys,I64 x) (hk:Keep (fun q=>blk b≠some q) w w'):Inner w' F g vs (xss.set j ys):=by
 have n:=(K1.1 hx).1;refine ⟨by simp[h.len],fun i B m=> ?_,h.apart⟩;by_cases a:j=i
 ·subst a;rw[List.getElem?_set_self n] at m;obtain rfl:=Option.some.inj m;obtain ⟨s,t,f,v,y,o⟩:=h.each j xs hx;rw[hv] at f;simp only[Option.some.injEq,Value.slice.injEq] at f;obtain ⟨rfl,_,rfl⟩:=f;exact ⟨b,c,by rw[hlen];exact hv,by rw[hlen];exact ho,hr,o⟩
 ·rw[List.getElem?_set_ne a] at m;obtain ⟨s,t,f,v,y,o⟩:=h.each i B m;refine ⟨s,t,f,v.keep hk (fun q C _ e=> ?_),y,o⟩;obtain ⟨k,p⟩:=K1.1 f;obtain ⟨l,r⟩:=K1.1 hv;have z:(vs[i]).ownBlock=some q:=by rw[p,ZaI];exact C
  have A:(vs[j]).ownBlock=some q:=by rw[r,ZaI];exact e
  rcases Nat.lt_or_gt_of_ne a with d|d
  ·exact LZ.1 h.apart j i l k d q A z
  ·exact LZ.1 h.apart i j k l d q z A
def VI (w:World) (S:Nat->Prop) (v:Value) (xs:List Int):Prop:= ∃ a n c,v= .slice a n c/\RdI w S a n c xs
def OI (w:World) (F:Nat->Prop) (v:Value) (xs:List Int):Prop:= ∃ a n c,v= .slice a n c/\Own w 3 1 a n c (ints xs)/\(∀ x∈xs,I64 x)/\ ∀ g,blk a=some g->F g
theorem VI.keep (h:VI w S v xs) (hk:Keep T w w') (hST: ∀ b,b<w.heap.size->S b->T b):VI w' S v xs:=by
 exact Ih
theorem VI.grow (h:VI w S v xs) (hk:Grow w w'):VI w' S v xs:=h.keep hk fun _ _ _=>trivial
theorem VI.weak (h:VI w S v xs) (hST: ∀ b,b<w.heap.size->S b->T b):VI w T v xs:=by
 exact IQ
theorem OI.keep (h:OI w F v xs) (hk:Keep T w w') (hT: ∀ b,b<w.heap.size->F b->T b):OI w' F v xs:=by
 obtain ⟨a,n,c,rfl,f,i,e⟩:=h;exact ⟨a,n,c,rfl,f.keep hk (fun g j d=>hT g d (e g j)),i,e⟩
theorem OI.grow (h:OI w F v xs) (hk:Grow w w'):OI w' F v xs:=h.keep hk fun _ _ _=>trivial
theorem OI.weak (h:OI w F v xs) (hF: ∀ b,b<w.heap.size->F b->G b):OI w G v xs:=by
 obtain ⟨a,n,c,rfl,d,f,i⟩:=h;exact ⟨a,n,c,rfl,d,f,fun g e=>hF g (d.lt e) (i g e)⟩
theorem OI.rd (h:OI w F v xs) (hS: ∀ b,F b->S b):VI w S v xs:=by
 obtain ⟨a,n,c,rfl,d,e,f⟩:=h;exact ⟨a,n,c,rfl,d.rdI (fun g i=>hS g (f g i)) e⟩
def VII (w:World) (S:Nat->Prop) (v:Value) (l:List (List Int)):Prop:= ∃ a n c,v= .slice a n c/\RdII w S a n c l
def OII (w:World) (F:Nat->Prop) (v:Value) (l:List (List Int)):Prop:= ∃ a n c,v= .slice a n c/\SepII w F a n c l
theorem VII.keep (h:VII w S v l) (hk:Keep T w w') (hST: ∀ b,b<w.heap.size->S b->T b):VII w' S v l:=by
 exact Ih
theorem VII.grow (h:VII w S v l) (hk:Grow w w'):VII w' S v l:=h.keep hk fun _ _ _=>trivial
theorem VII.weak (h:VII w S v l) (hST: ∀ b,b<w.heap.size->S b->T b):VII w T v l:=by
 exact IQ
theorem OII.keep (h:OII w F v l) (hk:Keep T w w') (hT: ∀ b,b<w.heap.size->F b->T b):OII w' F v l:=by
 obtain ⟨a,n,c,rfl,h⟩:=h;exact ⟨a,n,c,rfl,h.keep hk hT⟩
theorem OII.grow (h:OII w F v l) (hk:Grow w w'):OII w' F v l:=h.keep hk fun _ _ _=>trivial
theorem OII.weak (h:OII w F v l) (hF: ∀ b,b<w.heap.size->F b->G b):OII w G v l:=by
 obtain ⟨a,n,c,rfl,h⟩:=h;exact ⟨a,n,c,rfl,h.weak hF⟩
theorem OII.rd (h:OII w F v l) (hS: ∀ b,F b->S b):VII w S v l:=by
 obtain ⟨a,n,c,rfl,h⟩:=h;exact ⟨a,n,c,rfl,h.rdII hS⟩
structure Mat where
 rows:Int
 cols:Int
 cells:List Int
variable {m:Mat}
def VM (w:World) (S:Nat->Prop) (v:Value) (m:Mat):Prop:= ∃ a n c,v= .agg #[Yv Yi m.rows,Yv Yi m.cols, .slice a n c]/\RdI w S a n c m.cells/\I64 m.rows/\I64 m.cols
def OM (w:World) (F:Nat->Prop) (v:Value) (m:Mat):Prop:= ∃ a n c,v= .agg #[Yv Yi m.rows,Yv Yi m.cols, .slice a n c]/\Own w 3 1 a n c (ints m.cells)/\(∀ x∈m.cells,I64 x)/\(∀ g,blk a=some g->F g)/\I64 m.rows/\I64 m.cols
def bdM (m:Mat):Nat:=m.cells.length
theorem VM.keep (h:VM w S v m) (hk:Keep T w w') (hST: ∀ b,b<w.heap.size->S b->T b):VM w' S v m:=by
 obtain ⟨a,n,c,rfl,h,d,e⟩:=h;exact ⟨a,n,c,rfl,h.keep hk hST,d,e⟩
theorem VM.grow (h:VM w S v m) (hk:Grow w w'):VM w' S v m:=h.keep hk fun _ _ _=>trivial
theorem VM.weak (h:VM w S v m) (hST: ∀ b,b<w.heap.size->S b->T b):VM w T v m:=by
 obtain ⟨a,n,c,rfl,h,d,e⟩:=h;exact ⟨a,n,c,rfl,h.weak hST,d,e⟩
theorem OM.keep (h:OM w F v m) (hk:Keep T w w') (hT: ∀ b,b<w.heap.size->F b->T b):OM w' F v m:=by
 obtain ⟨a,n,c,rfl,f,i,e,j,k⟩:=h;exact ⟨a,n,c,rfl,f.keep hk (fun g l d=>hT g d (e g l)),i,e,j,k⟩
theorem OM.grow (h:OM w F v m) (hk:Grow w w'):OM w' F v m:=h.keep hk fun _ _ _=>trivial
theorem OM.weak (h:OM w F v m) (hF: ∀ b,b<w.heap.size->F b->G b):OM w G v m:=by
 obtain ⟨a,n,c,rfl,d,f,i,j,k⟩:=h;exact ⟨a,n,c,rfl,d,f,fun g e=>hF g (d.lt e) (i g e),j,k⟩
theorem OM.rd (h:OM w F v m) (hS: ∀ b,F b->S b):VM w S v m:=by
 obtain ⟨a,n,c,rfl,d,e,f,i,j⟩:=h;exact ⟨a,n,c,rfl,d.rdI (fun g k=>hS g (f g k)) e,i,j⟩
theorem Zc4 {P:Program} {C:World->Prop} {o:Oper} {a:Act} {K:Act->Prop} {ty:TypeId} {x:Operand} {g:Nat} {u z:Value} {t:TypeId} (hty:StT P ty 3) (ho:o.op= .load ty x) (hx:a.eval x= .pointer (some ⟨g,0,none⟩))
  (hv: ∀ w',C w'->Blk w' g #[u,v,z] t) (hk:K (a.put o.dst (.agg #[u,v,z]))):o.quiet P a C K:=Zaw (cs:= #[u,v,z]) hty ho hx hv hk
theorem Zhi {i f:Nat} (hi:i<n) (hf:f<c):i*c+f<n*c:=by
 have:(i+1)*c<=n*c:=Nat.mul_le_mul_right _ hi;rw[Nat.add_mul] at this;omega
theorem ints_set (l:List Int) (i:Nat) (v:Int):ints (l.set i v)=(ints l).set i (Yv Yi v):=by simp[ints,List.map_set]
theorem Zhj (n:Nat):(madeCells #[Value.int .i64 0] (n*1)).toList=ints (Ko n 0):=by
 rw[Nat.mul_one,toList_madeCells_one];simp[ints]
theorem Zrr: ∀ x∈Ko n (0:Int),I64 x:=by
 intro x a;have:=List.eq_of_mem_replicate a;subst this;unfold I64;omega
theorem Zg5 (r c:Nat) (w:World) (hr:r<=1048576) (hc:c<=1048576):
  Calls JG 138 #[Yv Yi r,Yv Yi c] w fun e w'=> ∃ a,e= .returned (.agg #[Yv Yi r,Yv Yi c, .slice a (r*c) (r*c)])/\Own w' 3 1 a (r*c) (r*c) (ints (Ko (r*c) 0))/\(∀ g,blk a=some g->w.heap.size<=g)/\Grow w w':=by
 have h:r*c<=1048576*1048576:=JL hr hc;have d:=T_ints.make (n:=r*c) I Γ;have b:((r:Int)*(c:Int))=((r*c:Nat):Int):=Θ
 have f: ∀ u:World,(Instr.makeSlice 35 (Yv Yi ((r:Int)*c)) (Yv Yi ((r:Int)*c))).run JG u= .ok (.slice (some ⟨u.heap.size,0,none⟩) (r*c) (r*c)) (u.alloc (.cells (madeCells #[Yv Yi 0] (r*c*1)) 3)):=fun u=>by rw[b];exact d u
 have i:IntKind.i64.wrap ((r:Int)*c)=(r:Int)*c:=Kh _ (by rw[b];omega);clear d b;go_enter func138,ntmps138;go_wp2;exact Gm
theorem Zc9 (r c:Nat) (w:World) (hr:r<=1048576) (hc:c<=1048576):
  Calls JG 181 #[Yv Yi r,Yv Yi c] w fun e w'=> ∃ a,e= .returned (.agg #[Yv Yi r,Yv Yi c, .slice a (r*c) (r*c)])/\Own w' 3 1 a (r*c) (r*c) (ints (Ko (r*c) 0))/\(∀ g,blk a=some g->w.heap.size<=g)/\Grow w w':=by
 have h:r*c<=1048576*1048576:=JL hr hc;have d:=T_ints.make (n:=r*c) I Γ;have b:((r:Int)*(c:Int))=((r*c:Nat):Int):=Θ
 have f: ∀ u:World,(Instr.makeSlice 35 (Yv Yi ((r:Int)*c)) (Yv Yi ((r:Int)*c))).run JG u= .ok (.slice (some ⟨u.heap.size,0,none⟩) (r*c) (r*c)) (u.alloc (.cells (madeCells #[Yv Yi 0] (r*c*1)) 3)):=fun u=>by rw[b];exact d u
 have i:IntKind.i64.wrap ((r:Int)*c)=(r:Int)*c:=Kh _ (by rw[b];omega);clear d b;go_enter func181,ntmps181;go_wp2;exact Gm
theorem Zjp (a:Option Addr) (n cp C i j idx:Nat) (R v:Int) (cells:List Int) (w:World) (h:Own w 3 1 a n cp (ints cells)) (hidx:idx=i*C+j) (hlt:idx<n) (hn:n<=1048576) (hi:i<=1048576) (hC:C<=1048576) (_hj:j<=1048576):
  Calls JG 163 #[.agg #[Yv Yi R,Yv Yi C, .slice a n cp],Yv Yi i,Yv Yi j,Yv Yi v] w fun e w'=>
   e= .returned (.tuple #[])/\Own w' 3 1 a n cp (ints (cells.set idx v))/\Keep (fun g=>blk a≠some g) w w':=by
 have x:cells.length=n:=Ao
 have r:i*C<=1048576*1048576:=JL hi hC;cases a with
 |none=>have:=h.nil rfl;have:=h.le;omega
 |some p=>
  have m:=(h.block p rfl).1;obtain ⟨f,y,z⟩:=p;simp only[Addr.mk.injEq,true_and] at m;obtain ⟨rfl,rfl⟩:=m;have c:=h.lt rfl;have o:=h.grow ((Grow.refl w).alloc #[Yv Yi R,Yv Yi (C:Int), .slice (some ⟨f,0,none⟩) n cp] 37);obtain ⟨q,d⟩: ∃ q,(ints cells)[idx]? =some q:=⟨_,JR Ψ⟩;have k:=o.cell d;clear d;have l:=o.free idx;simp only at k l c;have s:IntKind.i64.wrap ((i:Int)*C)=(i:Int)*C:=by have:((i:Int)*C)=((i*C:Nat):Int):=Θ;rw[this];exact Kh _ I
  have b:((i:Int)*C+j)=((idx:Nat):Int):=by rw[hidx];simp
  have t:IntKind.i64.wrap ((i:Int)*C+j)=(idx:Int):=by rw[b];exact Kh _ I
  clear b hidx;go_enter func163,ntmps163;go_wp2;exact bodyPost_end (results_none rfl _ _ _) rfl ⟨rfl,by rw[ints_set];exact (h.set idx (Yv Yi v)).grow ((Grow.refl _).alloc _ _),((Keep.refl (fun g=>blk (some (⟨f,0,none⟩:Addr))≠some g) w).setCell (p:=⟨f,idx,none⟩) (fun _ e=>e rfl) _).alloc _ _⟩
theorem Zbx (h:VM w S v m) (hb:bdM m<=1048576):Calls JG 46 #[v] w fun e w'=> ∃ v',e= .returned v'/\OM w' (New w w') v' m/\Grow w w':=by
 obtain ⟨a,n,c,rfl,h,C,D⟩:=h;have E:=h.len;unfold bdM at hb;obtain ⟨l,b,i, -, -, -, -⟩:=al3 w #[Yv Yi m.rows,Yv Yi m.cols, .slice a n c] 37 #[Yv Yi 0,Yv Yi 0, .slice none 0 0] 37 #[] 3;have F:l.heap.size=w.heap.size+3:=by rw[b];simp
 have y:Blk l w.heap.size #[Yv Yi m.rows,Yv Yi m.cols, .slice a n c] 37:=by rw[b];exact ((Blk.newAt _ _ _ rfl).alloc _).alloc _
 have z:Blk l (w.heap.size+1) #[Yv Yi 0,Yv Yi 0, .slice none 0 0] 37:=by rw[b];exact (Blk.newAt _ _ _ Θ).alloc _
 have G:Own l 3 1 (some ⟨w.heap.size+1+1,0,none⟩) 0 0 []:=by rw[b];exact Own.freshAt Θ Γ rfl
 obtain ⟨⟨L,M,N⟩, -⟩:=y.three;have r:=hid b;clear b;go_enter func46,ntmps46;go_wp2_with (at_builtin;rw[←r.out];refine ZD rfl (.tmp 3) (.tmp 5) _ rfl T_ints rfl G rfl (h.row.grow i) (ZdE _) I Γ ?_;intro d f o hA2;obtain ⟨⟨O,P,R⟩,T,V,W⟩:=(y.keep hA2.keep Ψ).three;obtain ⟨⟨X,Y,Z⟩,f0,f1,f2⟩:=(z.keep hA2.keep Θ).three);have A:w.heap.size+1≠w.heap.size:=I
 have j:Grow w o:=hA2.grow i (fun g hg=>κ);have hl2:=hA2.lo (B:=w.heap.size+2) I (fun g hg=>κ);have s:Own o 3 1 d n f (ints m.cells):=Dc
 have t:=z.keep hA2.keep Θ;have H:=j.size;have hK:Keep (fun q=>q≠w.heap.size/\q≠w.heap.size+1) o ((((o.setCell ⟨w.heap.size,2,none⟩ (.slice d n f)).setCell ⟨w.heap.size+1,0,none⟩ (Yv Yi m.rows)).setCell ⟨w.heap.size+1,1,none⟩ (Yv Yi m.cols)).setCell ⟨w.heap.size+1,2,none⟩ (.slice d n f)):=
  kS
 have k:=s.keep hK (fun g hg _=>Bf);have x:=(((t.other (p:=⟨w.heap.size,2,none⟩) Θ (.slice d n f)).set 0 (Yv Yi m.rows)).set 1 (Yv Yi m.cols)).set 2 (.slice d n f);have J:=E;refine Zx Zc rfl rfl rfl x ⟨_,rfl,⟨d,n,f,rfl,k,h.rng,fun g hg=>⟨Bf,k.lt hg⟩,C,D⟩,j.keep hK fun q hq=>I⟩
theorem Zic (h:VM w S v m) (hb:bdM m<=1048576):Calls JG 85 #[v] w fun e w'=> ∃ v',e= .returned v'/\OM w' (New w w') v' m/\Grow w w':=by
 obtain ⟨a,n,c,rfl,h,E,F⟩:=h;have N:=h.len;unfold bdM at hb;obtain ⟨k,d,l, -, -, -⟩:=al2 w #[Yv Yi m.rows,Yv Yi m.cols, .slice a n c] 37 #[Yv Yi 0,Yv Yi 0, .slice none 0 0] 37;have G:k.heap.size=w.heap.size+2:=by rw[d];simp
 have H:Blk k w.heap.size #[Yv Yi m.rows,Yv Yi m.cols, .slice a n c] 37:=by rw[d];exact (Blk.newAt _ _ _ rfl).alloc _
 have J:Blk k (w.heap.size+1) #[Yv Yi 0,Yv Yi 0, .slice none 0 0] 37:=by rw[d];exact Blk.newAt _ _ _ Θ
 obtain ⟨⟨O,P,R⟩, -⟩:=H.three;have x:=hid d;clear d;go_enter func85,ntmps85;go_wp2_with fail;rw[←x.out];refine Zcr (fun q=>q≠w.heap.size+1) [([0,1,2,3,5,6],some 4),([],some 7),([],some 8),([],some 9)] ?_;refine Zh ?_;obtain ⟨y,i⟩:=eX k.drew;rw[←i];have f:Grow k y:=by rw[i];exact (Grow.refl _).drew
 clear i;have L:=f.size;refine Zu rfl (fun K hK=> ?_);refine Zh4 rfl T_ints ?_;have D:Own (y.alloc (.cells #[] 3)) 3 1 (some ⟨y.heap.size,0,none⟩) 0 0 []:=Own.freshAt rfl Γ rfl;refine hK _ _ ((f.alloc _ _).mono fun _ _ _=>trivial) ?_;clear hK K;refine Zh ?_;refine Zu rfl (fun K hK=> ?_);refine ZkM rfl T_ints rfl D rfl (h.row.grow (l.trans (f.alloc _ _))) (ZdE _) I Γ ?_;intro r s t hA2;have b:Grow k t:=hA2.grow (f.alloc _ _) (fun g hg=>κ);have hl2:=hA2.lo (B:=w.heap.size+2) Ψ (fun g hg=>κ);have z:Own t 3 1 r n s (ints m.cells):=Dc
 have M:=b.size;have o:=J.grow b;clear hA2 D;rw[Nat.zero_add];refine hK _ _ (b.mono fun _ _ _=>trivial) ?_;clear hK K;refine ZR ?_;intro K hK;refine hK _ _ ((b.mono fun _ _ _=>trivial)) ?_;clear hK K;refine Zh ?_;refine Zu rfl (fun K hK=> ?_);obtain ⟨⟨T,V,W⟩,X,Y,Z⟩:=o.three;go_wp2_with fail;have j:Keep (fun q=>q≠w.heap.size+1) t (((t.setCell ⟨w.heap.size+1,0,none⟩ (Yv Yi m.rows)).setCell ⟨w.heap.size+1,1,none⟩ (Yv Yi m.cols)).setCell ⟨w.heap.size+1,2,none⟩ (.slice r n s)):=
  kS
 refine hK _ _ (((b.mono fun _ _ _=>trivial).trans j)) ?_;clear hK K;refine Ze ?_;have p:=z.keep j (fun g hg _ e=>Bf);have A:=((o.set 0 (Yv Yi m.rows)).set 1 (Yv Yi m.cols)).set 2 (.slice r n s);have C:=(l.trans b).keep j fun q hq=>I
 go_wp2;refine Zx Zc rfl rfl rfl A ⟨_,rfl,⟨r,n,s,rfl,p,h.rng,fun g hg=>⟨Bf,p.lt hg⟩,E,F⟩,C⟩

end Go.Proofs.YtgjefeiddfjjnaaGreatDoor
