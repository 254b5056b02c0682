/- The laws' helpers on []int: copying, measuring, comparing, marking. -/
import Derived.Test.YtjpcgofidijigaaGreatDoorZBase
set_option maxHeartbeats 8000000
set_option maxRecDepth 100000
namespace Go.Proofs.YtjpcgofidijigaaGreatDoor
open Go.RowKit
open Lib (hid)
open Go.Value renaming int->Yv
open Go.IntKind renaming i64->Yi
variable {F G S T:Nat->Prop} {a b:Option Addr} {c cap k n:Nat} {g g':Option Nat} {l xss:List (List Int)} {v:Value} {vs:List Value} {w w':World} {xs:List Int}
def ZnT (xs ys:List Int):Bool:=decide (xs=ys)
def ZkZ (n k:Nat):List Int:=(List.range n).map fun (i:Nat)=>((k+i:Nat):Int)
@[simp] theorem ZsW (n k:Nat):(ZkZ n k).length=n:=by simp[ZkZ]
structure Inner (w:World) (F:Nat->Prop) (g:Option Nat) (vs:List Value) (xss:List (List Int)):Prop where
 len:vs.length=xss.length
 each: ∀ (i:Nat) (xs:List Int),xss[i]? =some xs-> ∃ b c,vs[i]? =some (Value.slice b xs.length c)/\Own w 3 1 b xs.length c (ints xs)/\(∀ x∈xs,I64 x)/\ ∀ h,blk b=some h->F h/\g≠some h
 apart:vs.Pairwise fun u v=> ∀ h,u.ownBlock=some h->v.ownBlock≠some h
theorem Zao (b:Option Addr) (n c:Nat):(Value.slice b n c).ownBlock=blk b:=by cases b<;>rfl
theorem Inner.nilw:Inner w F g [] []:=⟨rfl,fun i xs h=>by simp at h, .nil⟩
theorem Inner.keep (h:Inner w F g vs xss) (hk:Keep T w w') (hT: ∀ b,b<w.heap.size->F b->g≠some b->T b):Inner w' F g vs xss:=by
 refine ⟨h.len,fun i xs hi=> ?_,h.apart⟩;obtain ⟨b,c,h1,h2,h3,h4⟩:=h.each i xs hi;exact ⟨b,c,h1,h2.keep hk (fun q hq hlt=>hT q hlt (h4 q hq).1 (h4 q hq).2),h3,h4⟩
theorem Inner.grow (h:Inner w F g vs xss) (hk:Grow w w'):Inner w' F g vs xss:=h.keep hk fun _ _ _ _=>trivial
theorem Inner.weak (h:Inner w F g vs xss) (hF: ∀ b,b<w.heap.size->F b->g≠some b->G b/\g'≠some b):Inner w G g' vs xss:=by
 refine ⟨h.len,fun i xs hi=> ?_,h.apart⟩;obtain ⟨b,c,h1,h2,h3,h4⟩:=h.each i xs hi;exact ⟨b,c,h1,h2,h3,fun q hq=>hF q (h2.lt hq) (h4 q hq).1 (h4 q hq).2⟩
theorem Inner.move (h:Inner w F g vs xss) (hk:Keep T w w') (hT: ∀ b,b<w.heap.size->F b->g≠some b->T b/\G b/\g'≠some b):Inner w' G g' vs xss:=by
 refine ⟨h.len,fun i xs hi=> ?_,h.apart⟩;obtain ⟨b,c,h1,h2,h3,h4⟩:=h.each i xs hi;exact ⟨b,c,h1,h2.keep hk (fun q hq hlt=>(hT q hlt (h4 q hq).1 (h4 q hq).2).1),h3,fun q hq=>(hT q (h2.lt hq) (h4 q hq).1 (h4 q hq).2).2⟩
theorem Inner.snoc (h:Inner w F g vs xss) (ho:Own w 3 1 b xs.length c (ints xs)) (hr: ∀ x∈xs,I64 x)
  (hb: ∀ q,blk b=some q->F q/\g≠some q) (hnew: ∀ q,blk b=some q-> ∀ v∈vs,v.ownBlock≠some q):Inner w F g (vs++[.slice b xs.length c]) (xss++[xs]):=by
 refine ⟨by simp[h.len],fun i ys hi=> ?_, ?_⟩
 ·by_cases hlt:i<xss.length
  ·rw[List.getElem?_append_left hlt] at hi;obtain ⟨b',c',h1,h2⟩:=h.each i ys hi;exact ⟨b',c',by rw[List.getElem?_append_left (by rw[h.len];exact hlt)];exact h1,h2⟩
  ·rw[List.getElem?_append_right (by omega)] at hi;have:i-xss.length=0:=by
    rcases Nat.eq_zero_or_pos (i-xss.length) with h0|h0
    ·exact h0
    ·rw[List.getElem?_eq_none (by simp;omega)] at hi;cases hi
   rw[this] at hi;obtain rfl:xs=ys:=(by simpa using hi);have hi':i=vs.length:=(by rw[h.len];omega);subst hi';exact ⟨b,c,by simp,ho,hr,hb⟩
 ·rw[List.pairwise_append];refine ⟨h.apart,List.pairwise_singleton _ _,fun u hu v hv q hq=> ?_⟩;obtain rfl:=List.mem_singleton.1 hv;rw[Zao];intro e;exact hnew q e u hu hq
theorem Inner.lt (h:Inner w F g vs xss) (hv:v∈vs) {q:Nat} (hq:v.ownBlock=some q):q<w.heap.size/\F q/\g≠some q:=by
 obtain ⟨i,hi,rfl⟩:=List.mem_iff_getElem.1 hv;have hi':i<xss.length:=by rw[←h.len];exact hi
 obtain ⟨b,c,h1,h2,_,h4⟩:=h.each i _ (List.getElem?_eq_getElem hi');rw[List.getElem?_eq_getElem hi] at h1;have h5:=Option.some.inj h1;rw[h5,Zao] at hq;exact ⟨h2.lt hq,h4 q hq⟩
theorem Inner.rdII (h:Inner w F g vs xss) (hr:Row w S 1 a n cap vs) (hS: ∀ b,F b->g≠some b->S b):RdII w S a n cap xss:=by
 refine ⟨⟨vs,hr,fun i xs hi=> ?_⟩,by have:=h.len;have:=hr.len;omega⟩;obtain ⟨b,c,h1,h2,h3,h4⟩:=h.each i xs hi;exact ⟨b,c,h1,h2.rdI (fun q hq=>hS q (h4 q hq).1 (h4 q hq).2) h3⟩
structure SepII (w:World) (F:Nat->Prop) (a:Option Addr) (n cap:Nat) (xss:List (List Int)):Prop where
 own: ∃ vs,Own w 32 1 a n cap vs/\Inner w F (blk a) vs xss
 lo: ∀ g,blk a=some g->F g
theorem SepII.keep (h:SepII w F a n cap xss) (hk:Keep T w w') (hT: ∀ b,b<w.heap.size->F b->T b):SepII w' F a n cap xss:=by
 obtain ⟨⟨vs,h1,h2⟩,h3⟩:=h;exact ⟨⟨vs,h1.keep hk (fun g hg hlt=>hT g hlt (h3 g hg)),h2.keep hk (fun b hb hF _=>hT b hb hF)⟩,h3⟩
theorem SepII.grow (h:SepII w F a n cap xss) (hk:Grow w w'):SepII w' F a n cap xss:=h.keep hk fun _ _ _=>trivial
theorem SepII.weak (h:SepII w F a n cap xss) (hF: ∀ b,b<w.heap.size->F b->G b):SepII w G a n cap xss:=by
 obtain ⟨⟨vs,h1,h2⟩,h3⟩:=h;exact ⟨⟨vs,h1,h2.weak fun b hb hFb hne=>⟨hF b hb hFb,hne⟩⟩,fun g hg=>hF g (h1.lt hg) (h3 g hg)⟩
theorem SepII.rdII (h:SepII w F a n cap xss) (hS: ∀ b,F b->S b):RdII w S a n cap xss:=by
 obtain ⟨⟨vs,h1,h2⟩,h3⟩:=h;exact h2.rdII (h1.row fun g hg=>hS g (h3 g hg)) fun b hb _=>hS b hb
theorem SepII.len (h:SepII w F a n cap xss):xss.length=n:=by
 obtain ⟨⟨vs,h1,h2⟩,h3⟩:=h;have:=h1.len;have:=h2.len;omega
def New (w w':World) (g:Nat):Prop:=w.heap.size<=g/\g<w'.heap.size
def total (xss:List (List Int)):Nat:=(xss.map List.length).sum
@[simp] theorem ZsT:total []=0:=rfl
@[simp] theorem Zni (xs:List Int) (r:List (List Int)):total (xs::r)=xs.length+total r:=by simp[total]
theorem Zg6 (l r:List (List Int)):total (l++r)=total l+total r:=by simp[total]
theorem Ze9 (h:xss[k]? =some xs):total (xss.take (k+1))=total (xss.take k)+xs.length:=by
 rw[ZH h,Zg6];simp
theorem ZkN (xss:List (List Int)) (k:Nat):total (xss.take k)<=total xss:=by
 conv=>rhs;rw[←List.take_append_drop k xss]
 rw[Zg6];omega
theorem ZqL (h:xss[k]? =some xs):total (xss.take k)+xs.length<=total xss:=by
 rw[←Ze9 h];exact ZkN _ _
def Zg4:List (List Int)->Nat->List (List Int)
 |[],_=>[]
 |xs::r,k=>ZkZ xs.length k::Zg4 r (k+xs.length)
@[simp] theorem Znu: ∀ (xss:List (List Int)) (k:Nat),(Zg4 xss k).length=xss.length
 |[],_=>rfl
 |xs::r,k=>by simp[Zg4,Znu r]
@[simp] theorem ZlX: ∀ (xss:List (List Int)) (k:Nat),total (Zg4 xss k)=total xss
 |[],_=>rfl
 |xs::r,k=>by simp[Zg4,ZlX r]
theorem Inner.put (h:Inner w F g vs xss) {j:Nat} {ys:List Int} (hv:vs[j]? =some (Value.slice b xs.length c)) (hx:xss[j]? =some xs) (hlen:ys.length=xs.length)
  (ho:Own w' 3 1 b xs.length c (ints ys)) (hr: ∀ x∈ys,I64 x) (hk:Keep (fun q=>blk b≠some q) w w'):Inner w' F g vs (xss.set j ys):=by
 have hjx:=(List.getElem?_eq_some_iff.1 hx).1;refine ⟨by simp[h.len],fun i zs hi=> ?_,h.apart⟩;by_cases hij:j=i
 ·subst hij;rw[List.getElem?_set_self hjx] at hi;obtain rfl:=Option.some.inj hi;obtain ⟨b',c',h1,h2,h3,h4⟩:=h.each j xs hx;rw[hv] at h1;simp only[Option.some.injEq,Value.slice.injEq] at h1;obtain ⟨rfl,_,rfl⟩:=h1;exact ⟨b,c,by rw[hlen];exact hv,by rw[hlen];exact ho,hr,h4⟩
 ·rw[List.getElem?_set_ne hij] at hi;obtain ⟨b',c',h1,h2,h3,h4⟩:=h.each i zs hi;refine ⟨b',c',h1,h2.keep hk (fun q hq _ e=> ?_),h3,h4⟩;obtain ⟨hi1,hi2⟩:=List.getElem?_eq_some_iff.1 h1;obtain ⟨hj1,hj2⟩:=List.getElem?_eq_some_iff.1 hv;have e1:(vs[i]).ownBlock=some q:=by rw[hi2,Zao];exact hq
  have e2:(vs[j]).ownBlock=some q:=by rw[hj2,Zao];exact e
  rcases Nat.lt_or_gt_of_ne hij with hlt|hlt
  ·exact List.pairwise_iff_getElem.1 h.apart j i hj1 hi1 hlt q e2 e1
  ·exact List.pairwise_iff_getElem.1 h.apart i j hi1 hj1 hlt q e1 e2
def VI (w:World) (S:Nat->Prop) (v:Value) (xs:List Int):Prop:= ∃ a n c,v= .slice a n c/\RdI w S a n c xs
def OI (w:World) (F:Nat->Prop) (v:Value) (xs:List Int):Prop:= ∃ a n c,v= .slice a n c/\Own w 3 1 a n c (ints xs)/\(∀ x∈xs,I64 x)/\ ∀ g,blk a=some g->F g
theorem VI.keep (h:VI w S v xs) (hk:Keep T w w') (hST: ∀ b,b<w.heap.size->S b->T b):VI w' S v xs:=by
 obtain ⟨a,n,c,rfl,h⟩:=h;exact ⟨a,n,c,rfl,h.keep hk hST⟩
theorem VI.grow (h:VI w S v xs) (hk:Grow w w'):VI w' S v xs:=h.keep hk fun _ _ _=>trivial
theorem VI.weak (h:VI w S v xs) (hST: ∀ b,b<w.heap.size->S b->T b):VI w T v xs:=by
 obtain ⟨a,n,c,rfl,h⟩:=h;exact ⟨a,n,c,rfl,h.weak hST⟩
theorem OI.keep (h:OI w F v xs) (hk:Keep T w w') (hT: ∀ b,b<w.heap.size->F b->T b):OI w' F v xs:=by
 obtain ⟨a,n,c,rfl,h1,h2,h3⟩:=h;exact ⟨a,n,c,rfl,h1.keep hk (fun g hg hlt=>hT g hlt (h3 g hg)),h2,h3⟩
theorem OI.grow (h:OI w F v xs) (hk:Grow w w'):OI w' F v xs:=h.keep hk fun _ _ _=>trivial
theorem OI.weak (h:OI w F v xs) (hF: ∀ b,b<w.heap.size->F b->G b):OI w G v xs:=by
 obtain ⟨a,n,c,rfl,h1,h2,h3⟩:=h;exact ⟨a,n,c,rfl,h1,h2,fun g hg=>hF g (h1.lt hg) (h3 g hg)⟩
theorem OI.rd (h:OI w F v xs) (hS: ∀ b,F b->S b):VI w S v xs:=by
 obtain ⟨a,n,c,rfl,h1,h2,h3⟩:=h;exact ⟨a,n,c,rfl,h1.rdI (fun g hg=>hS g (h3 g hg)) h2⟩
def VII (w:World) (S:Nat->Prop) (v:Value) (l:List (List Int)):Prop:= ∃ a n c,v= .slice a n c/\RdII w S a n c l
def OII (w:World) (F:Nat->Prop) (v:Value) (l:List (List Int)):Prop:= ∃ a n c,v= .slice a n c/\SepII w F a n c l
theorem VII.keep (h:VII w S v l) (hk:Keep T w w') (hST: ∀ b,b<w.heap.size->S b->T b):VII w' S v l:=by
 obtain ⟨a,n,c,rfl,h⟩:=h;exact ⟨a,n,c,rfl,h.keep hk hST⟩
theorem VII.grow (h:VII w S v l) (hk:Grow w w'):VII w' S v l:=h.keep hk fun _ _ _=>trivial
theorem VII.weak (h:VII w S v l) (hST: ∀ b,b<w.heap.size->S b->T b):VII w T v l:=by
 obtain ⟨a,n,c,rfl,h⟩:=h;exact ⟨a,n,c,rfl,h.weak hST⟩
theorem OII.keep (h:OII w F v l) (hk:Keep T w w') (hT: ∀ b,b<w.heap.size->F b->T b):OII w' F v l:=by
 obtain ⟨a,n,c,rfl,h⟩:=h;exact ⟨a,n,c,rfl,h.keep hk hT⟩
theorem OII.grow (h:OII w F v l) (hk:Grow w w'):OII w' F v l:=h.keep hk fun _ _ _=>trivial
theorem OII.weak (h:OII w F v l) (hF: ∀ b,b<w.heap.size->F b->G b):OII w G v l:=by
 obtain ⟨a,n,c,rfl,h⟩:=h;exact ⟨a,n,c,rfl,h.weak hF⟩
theorem OII.rd (h:OII w F v l) (hS: ∀ b,F b->S b):VII w S v l:=by
 obtain ⟨a,n,c,rfl,h⟩:=h;exact ⟨a,n,c,rfl,h.rdII hS⟩
structure Mat where
 rows:Int
 cols:Int
 cells:List Int
variable {m:Mat}
def VM (w:World) (S:Nat->Prop) (v:Value) (m:Mat):Prop:= ∃ a n c,v= .agg #[Yv Yi m.rows,Yv Yi m.cols, .slice a n c]/\RdI w S a n c m.cells/\I64 m.rows/\I64 m.cols
def OM (w:World) (F:Nat->Prop) (v:Value) (m:Mat):Prop:= ∃ a n c,v= .agg #[Yv Yi m.rows,Yv Yi m.cols, .slice a n c]/\Own w 3 1 a n c (ints m.cells)/\(∀ x∈m.cells,I64 x)/\(∀ g,blk a=some g->F g)/\I64 m.rows/\I64 m.cols
def bdM (m:Mat):Nat:=m.cells.length
theorem VM.keep (h:VM w S v m) (hk:Keep T w w') (hST: ∀ b,b<w.heap.size->S b->T b):VM w' S v m:=by
 obtain ⟨a,n,c,rfl,h,hr,hc⟩:=h;exact ⟨a,n,c,rfl,h.keep hk hST,hr,hc⟩
theorem VM.grow (h:VM w S v m) (hk:Grow w w'):VM w' S v m:=h.keep hk fun _ _ _=>trivial
theorem VM.weak (h:VM w S v m) (hST: ∀ b,b<w.heap.size->S b->T b):VM w T v m:=by
 obtain ⟨a,n,c,rfl,h,hr,hc⟩:=h;exact ⟨a,n,c,rfl,h.weak hST,hr,hc⟩
theorem OM.keep (h:OM w F v m) (hk:Keep T w w') (hT: ∀ b,b<w.heap.size->F b->T b):OM w' F v m:=by
 obtain ⟨a,n,c,rfl,h1,h2,h3,hr,hc⟩:=h;exact ⟨a,n,c,rfl,h1.keep hk (fun g hg hlt=>hT g hlt (h3 g hg)),h2,h3,hr,hc⟩
theorem OM.grow (h:OM w F v m) (hk:Grow w w'):OM w' F v m:=h.keep hk fun _ _ _=>trivial
theorem OM.weak (h:OM w F v m) (hF: ∀ b,b<w.heap.size->F b->G b):OM w G v m:=by
 obtain ⟨a,n,c,rfl,h1,h2,h3,hr,hc⟩:=h;exact ⟨a,n,c,rfl,h1,h2,fun g hg=>hF g (h1.lt hg) (h3 g hg),hr,hc⟩
theorem OM.rd (h:OM w F v m) (hS: ∀ b,F b->S b):VM w S v m:=by
 obtain ⟨a,n,c,rfl,h1,h2,h3,hr,hc⟩:=h;exact ⟨a,n,c,rfl,h1.rdI (fun g hg=>hS g (h3 g hg)) h2,hr,hc⟩
theorem Zh {P:Program} {C:World->Prop} {o:Oper} {a:Act} {K:Act->Prop} {ty:TypeId} {x:Operand} {g:Nat} {u z:Value} {t:TypeId} (hty:StT P ty 3) (ho:o.op= .load ty x) (hx:a.eval x= .pointer (some ⟨g,0,none⟩))
  (hv: ∀ w',C w'->Blk w' g #[u,v,z] t) (hk:K (a.put o.dst (.agg #[u,v,z]))):o.quiet P a C K:=Zag (cs:= #[u,v,z]) hty ho hx hv hk
theorem Zmj {i f:Nat} (hi:i<n) (hf:f<c):i*c+f<n*c:=by
 have:(i+1)*c<=n*c:=Nat.mul_le_mul_right _ hi;rw[Nat.add_mul] at this;omega
theorem ints_set (l:List Int) (i:Nat) (v:Int):ints (l.set i v)=(ints l).set i (Yv Yi v):=by simp[ints,List.map_set]
theorem ZfN (n:Nat):(madeCells #[Value.int .i64 0] (n*1)).toList=ints (List.replicate n 0):=by
 rw[Nat.mul_one,toList_madeCells_one];simp[ints]
theorem ZoA: ∀ x∈List.replicate n (0:Int),I64 x:=by
 intro x hx;have:=List.eq_of_mem_replicate hx;subst this;unfold I64;omega
theorem Zrm (r c:Nat) (w:World) (hr:r<=1048576) (hc:c<=1048576):
  Calls Tryz.prog 91 #[Yv Yi r,Yv Yi c] w fun e w'=> ∃ a,e= .returned (.agg #[Yv Yi r,Yv Yi c, .slice a (r*c) (r*c)])/\Own w' 3 1 a (r*c) (r*c) (ints (List.replicate (r*c) 0))/\(∀ g,blk a=some g->w.heap.size<=g)/\Grow w w':=by
 have hrc:r*c<=1048576*1048576:=Nat.mul_le_mul hr hc;have hmk:=T_ints.make (n:=r*c) (by omega) (by unfold maxLen;omega);have hmul:((r:Int)*(c:Int))=((r*c:Nat):Int):=by simp
 have hmk2: ∀ u:World,(Instr.makeSlice 32 (Yv Yi ((r:Int)*c)) (Yv Yi ((r:Int)*c))).run Tryz.prog u= .ok (.slice (some ⟨u.heap.size,0,none⟩) (r*c) (r*c)) (u.alloc (.cells (madeCells #[Yv Yi 0] (r*c*1)) 3)):=fun u=>by rw[hmul];exact hmk u
 have hw:IntKind.i64.wrap ((r:Int)*c)=(r:Int)*c:=IntWalk.i64_in _ (by rw[hmul];omega);clear hmk hmul;go_enter Tryz.func91,Tryz.ntmps91;go_wp2;have hB:=(Blk.newAt w #[Yv Yi (r:Int),Yv Yi (c:Int), .slice (some ⟨w.heap.size+1,0,none⟩) (r*c) (r*c)] 34 rfl).alloc (.cells (madeCells #[Yv Yi 0] (r*c)) 3);have hO:=Own.freshAt (w:=w.alloc (.cells #[Yv Yi (r:Int),Yv Yi (c:Int), .slice (some ⟨w.heap.size+1,0,none⟩) (r*c) (r*c)] 34)) (e:=3) (sz:=1) (cs:=madeCells #[Yv Yi 0] (r*c)) (n:=r*c) (g:=w.heap.size+1) (by simp) (by unfold maxLen;omega) (by simp[madeCells]);rw[toList_madeCells_one] at hO;refine ZF Zc rfl rfl rfl hB ⟨_,rfl,by simpa [ints] using hO,fun g hg=>by simp at hg;omega,((Grow.refl w).alloc _ _).alloc _ _⟩
theorem Zb1 (r c:Nat) (w:World) (hr:r<=1048576) (hc:c<=1048576):
  Calls Tryz.prog 128 #[Yv Yi r,Yv Yi c] w fun e w'=> ∃ a,e= .returned (.agg #[Yv Yi r,Yv Yi c, .slice a (r*c) (r*c)])/\Own w' 3 1 a (r*c) (r*c) (ints (List.replicate (r*c) 0))/\(∀ g,blk a=some g->w.heap.size<=g)/\Grow w w':=by
 have hrc:r*c<=1048576*1048576:=Nat.mul_le_mul hr hc;have hmk:=T_ints.make (n:=r*c) (by omega) (by unfold maxLen;omega);have hmul:((r:Int)*(c:Int))=((r*c:Nat):Int):=by simp
 have hmk2: ∀ u:World,(Instr.makeSlice 32 (Yv Yi ((r:Int)*c)) (Yv Yi ((r:Int)*c))).run Tryz.prog u= .ok (.slice (some ⟨u.heap.size,0,none⟩) (r*c) (r*c)) (u.alloc (.cells (madeCells #[Yv Yi 0] (r*c*1)) 3)):=fun u=>by rw[hmul];exact hmk u
 have hw:IntKind.i64.wrap ((r:Int)*c)=(r:Int)*c:=IntWalk.i64_in _ (by rw[hmul];omega);clear hmk hmul;go_enter Tryz.func128,Tryz.ntmps128;go_wp2;have hB:=(Blk.newAt w #[Yv Yi (r:Int),Yv Yi (c:Int), .slice (some ⟨w.heap.size+1,0,none⟩) (r*c) (r*c)] 34 rfl).alloc (.cells (madeCells #[Yv Yi 0] (r*c)) 3);have hO:=Own.freshAt (w:=w.alloc (.cells #[Yv Yi (r:Int),Yv Yi (c:Int), .slice (some ⟨w.heap.size+1,0,none⟩) (r*c) (r*c)] 34)) (e:=3) (sz:=1) (cs:=madeCells #[Yv Yi 0] (r*c)) (n:=r*c) (g:=w.heap.size+1) (by simp) (by unfold maxLen;omega) (by simp[madeCells]);rw[toList_madeCells_one] at hO;refine ZF Zc rfl rfl rfl hB ⟨_,rfl,by simpa [ints] using hO,fun g hg=>by simp at hg;omega,((Grow.refl w).alloc _ _).alloc _ _⟩
theorem ZhO (a:Option Addr) (n cp C i j idx:Nat) (R v:Int) (cells:List Int) (w:World) (h:Own w 3 1 a n cp (ints cells)) (hidx:idx=i*C+j) (hlt:idx<n) (hn:n<=1048576) (hi:i<=1048576) (hC:C<=1048576) (_hj:j<=1048576):
  Calls Tryz.prog 109 #[.agg #[Yv Yi R,Yv Yi C, .slice a n cp],Yv Yi i,Yv Yi j,Yv Yi v] w fun e w'=>
   e= .returned (.tuple #[])/\Own w' 3 1 a n cp (ints (cells.set idx v))/\Keep (fun g=>blk a≠some g) w w':=by
 have hl:cells.length=n:=by simpa using h.len
 have hiC:i*C<=1048576*1048576:=Nat.mul_le_mul hi hC;cases a with
 |none=>have:=h.nil rfl;have:=h.le;omega
 |some p=>
  have hp:=(h.block p rfl).1;obtain ⟨pb,po,ps⟩:=p;simp only[Addr.mk.injEq,true_and] at hp;obtain ⟨rfl,rfl⟩:=hp;have hlt':=h.lt rfl;have h1:=h.grow ((Grow.refl w).alloc #[Yv Yi R,Yv Yi (C:Int), .slice (some ⟨pb,0,none⟩) n cp] 34);obtain ⟨c0,hc0⟩: ∃ c0,(ints cells)[idx]? =some c0:=⟨_,List.getElem?_eq_getElem (by simp;omega)⟩;have hce:=h1.cell hc0;clear hc0;have hfr:=h1.free idx;simp only at hce hfr hlt';have hw1:IntKind.i64.wrap ((i:Int)*C)=(i:Int)*C:=by have:((i:Int)*C)=((i*C:Nat):Int):=(by simp);rw[this];exact IntWalk.i64_in _ (by omega)
  have hsum:((i:Int)*C+j)=((idx:Nat):Int):=by rw[hidx];simp
  have hw2:IntKind.i64.wrap ((i:Int)*C+j)=(idx:Int):=by rw[hsum];exact IntWalk.i64_in _ (by omega)
  clear hsum hidx;go_enter Tryz.func109,Tryz.ntmps109;go_wp2;exact bodyPost_end (results_none rfl _ _ _) rfl ⟨rfl,by rw[ints_set];exact (h.set idx (Yv Yi v)).grow ((Grow.refl _).alloc _ _),((Keep.refl (fun g=>blk (some (⟨pb,0,none⟩:Addr))≠some g) w).setCell (p:=⟨pb,idx,none⟩) (fun _ e=>e rfl) _).alloc _ _⟩
theorem ZaT (h:VM w S v m) (hb:bdM m<=1048576):Calls Tryz.prog 38 #[v] w fun e w'=> ∃ v',e= .returned v'/\OM w' (New w w') v' m/\Grow w w':=by
 obtain ⟨a,n,c,rfl,h,hr,hc⟩:=h;have hl:=h.len;unfold bdM at hb;obtain ⟨w0,hw0,hG0, -, -, -, -⟩:=al3 w #[Yv Yi m.rows,Yv Yi m.cols, .slice a n c] 34 #[Yv Yi 0,Yv Yi 0, .slice none 0 0] 34 #[] 3;have hs0:w0.heap.size=w.heap.size+3:=by rw[hw0];simp
 have b1:Blk w0 w.heap.size #[Yv Yi m.rows,Yv Yi m.cols, .slice a n c] 34:=by rw[hw0];exact ((Blk.newAt _ _ _ rfl).alloc _).alloc _
 have b2:Blk w0 (w.heap.size+1) #[Yv Yi 0,Yv Yi 0, .slice none 0 0] 34:=by rw[hw0];exact (Blk.newAt _ _ _ (by simp)).alloc _
 have hE:Own w0 3 1 (some ⟨w.heap.size+1+1,0,none⟩) 0 0 []:=by rw[hw0];exact Own.freshAt (by simp) (by unfold maxLen;omega) rfl
 obtain ⟨⟨x0,x1,x2⟩, -⟩:=b1.three;have Hw0:=hid hw0;clear hw0;go_enter Tryz.func38,Tryz.ntmps38;go_wp2_with (at_builtin;rw[←Hw0.out];refine Zx rfl (.tmp 3) (.tmp 5) _ rfl T_ints rfl hE rfl (h.row.grow hG0) (Zc9 _) (by omega) (by unfold maxLen;omega) ?_;intro a2 c2 w2 hA2;obtain ⟨⟨z0,z1,z2⟩,g0,g1,g2⟩:=(b1.keep hA2.keep (by simp;omega)).three;obtain ⟨⟨y0,y1,y2⟩,f0,f1,f2⟩:=(b2.keep hA2.keep (by simp)).three);have hne1:w.heap.size+1≠w.heap.size:=by omega
 have hG2:Grow w w2:=hA2.grow hG0 (fun g hg=>by simp at hg;omega);have hl2:=hA2.lo (B:=w.heap.size+2) (by omega) (fun g hg=>by simp at hg;omega);have ho2:Own w2 3 1 a2 n c2 (ints m.cells):=by simpa using hA2.own
 have hB2:=b2.keep hA2.keep (by simp);have hs2:=hG2.size;have hK:Keep (fun q=>q≠w.heap.size/\q≠w.heap.size+1) w2 ((((w2.setCell ⟨w.heap.size,2,none⟩ (.slice a2 n c2)).setCell ⟨w.heap.size+1,0,none⟩ (Yv Yi m.rows)).setCell ⟨w.heap.size+1,1,none⟩ (Yv Yi m.cols)).setCell ⟨w.heap.size+1,2,none⟩ (.slice a2 n c2)):=
  ((((Keep.refl _ w2).setCell (fun _ e=>e.1 rfl) _).setCell (fun _ e=>e.2 rfl) _).setCell (fun _ e=>e.2 rfl) _).setCell (fun _ e=>e.2 rfl) _
 have hof:=ho2.keep hK (fun g hg _=>by have:=hl2 g hg;omega);have hBf:=(((hB2.other (p:=⟨w.heap.size,2,none⟩) (by simp) (.slice a2 n c2)).set 0 (Yv Yi m.rows)).set 1 (Yv Yi m.cols)).set 2 (.slice a2 n c2);have hl':=hl;refine ZF Zc rfl rfl rfl hBf ⟨_,rfl,⟨a2,n,c2,rfl,hof,h.rng,fun g hg=>⟨by have:=hl2 g hg;omega,hof.lt hg⟩,hr,hc⟩,hG2.keep hK fun q hq=>by omega⟩
theorem Zlw (h:VM w S v m) (hb:bdM m<=1048576):Calls Tryz.prog 53 #[v] w fun e w'=> ∃ v',e= .returned v'/\OM w' (New w w') v' m/\Grow w w':=by
 obtain ⟨a,n,c,rfl,h,hr,hc⟩:=h;have hl:=h.len;unfold bdM at hb;obtain ⟨w0,hw0,hG0, -, -, -⟩:=al2 w #[Yv Yi m.rows,Yv Yi m.cols, .slice a n c] 34 #[Yv Yi 0,Yv Yi 0, .slice none 0 0] 34;have hs0:w0.heap.size=w.heap.size+2:=by rw[hw0];simp
 have b1:Blk w0 w.heap.size #[Yv Yi m.rows,Yv Yi m.cols, .slice a n c] 34:=by rw[hw0];exact (Blk.newAt _ _ _ rfl).alloc _
 have b2:Blk w0 (w.heap.size+1) #[Yv Yi 0,Yv Yi 0, .slice none 0 0] 34:=by rw[hw0];exact Blk.newAt _ _ _ (by simp)
 obtain ⟨⟨x0,x1,x2⟩, -⟩:=b1.three;have Hw0:=hid hw0;clear hw0;go_enter Tryz.func53,Tryz.ntmps53;go_wp2_with fail;rw[←Hw0.out];refine Zg (S:=(Keep (fun q=>q≠w.heap.size+1) w0)) [([0,1,2,3,5,6],some 4),([],some 7),([],some 8),([],some 9)] Zm (by kernel_rfl) (fun _ _ _ _ _ h=>h) (Keep.refl _ _).drew ?_;show wpQuiet _ _ _ _ [_,_,_,_,_,_] _;repeat (first |(go_big_quiet_want;(first |refine Za Zv rfl rfl (fun w' hG=>hG.cell (by simp) x0) ?_|refine Za Zv rfl rfl (fun w' hG=>hG.cell (by simp) x1) ?_|refine Za ZdE rfl rfl (fun w' hG=>hG.cell (by simp) x2) ?_);go_big_quiet_on;simp only[putP])|go_big_quiet_step (exact fun _=>rfl))
 refine wpQuiet_nil ?_;obtain ⟨w1,hw1⟩: ∃ w1,w1=w0.drew:=⟨_,rfl⟩;rw[←hw1];have hG1:Grow w0 w1:=by rw[hw1];exact (Grow.refl _).drew
 clear hw1;have hs1:=hG1.size;refine Zf rfl (fun K hK=> ?_);refine Zn9 rfl T_ints ?_;have hE:Own (w1.alloc (.cells #[] 3)) 3 1 (some ⟨w1.heap.size,0,none⟩) 0 0 []:=Own.freshAt rfl (by unfold maxLen;omega) rfl;refine hK _ _ ((hG1.alloc _ _).mono fun _ _ _=>trivial) ?_;clear hK K;refine wpQuiet_nil ?_;refine Zf rfl (fun K hK=> ?_);refine Zlp rfl T_ints rfl hE rfl (h.row.grow (hG0.trans (hG1.alloc _ _))) (Zc9 _) (by omega) (by unfold maxLen;omega) ?_;intro a2 c2 w2 hA2;have hG2:Grow w0 w2:=hA2.grow (hG1.alloc _ _) (fun g hg=>by simp at hg;omega);have hl2:=hA2.lo (B:=w.heap.size+2) (by simp;omega) (fun g hg=>by simp at hg;omega);have ho2:Own w2 3 1 a2 n c2 (ints m.cells):=by simpa using hA2.own
 have hs2:=hG2.size;have hB2:=b2.grow hG2;clear hA2 hE;rw[Nat.zero_add];refine hK _ _ (hG2.mono fun _ _ _=>trivial) ?_;clear hK K;refine wpQuiet_nil ?_;refine Zf rfl (fun K hK=> ?_);go_wp2_with fail;refine hK _ _ ((hG2.mono fun _ _ _=>trivial)) ?_;clear hK K;refine wpQuiet_nil ?_;refine Zf rfl (fun K hK=> ?_);obtain ⟨⟨y0,y1,y2⟩,f0,f1,f2⟩:=hB2.three;go_wp2_with fail;have hK2:Keep (fun q=>q≠w.heap.size+1) w2 (((w2.setCell ⟨w.heap.size+1,0,none⟩ (Yv Yi m.rows)).setCell ⟨w.heap.size+1,1,none⟩ (Yv Yi m.cols)).setCell ⟨w.heap.size+1,2,none⟩ (.slice a2 n c2)):=
  (((Keep.refl _ w2).setCell (fun _ e=>e rfl) _).setCell (fun _ e=>e rfl) _).setCell (fun _ e=>e rfl) _
 refine hK _ _ (((hG2.mono fun _ _ _=>trivial).trans hK2)) ?_;clear hK K;refine Zk ?_;have hof:=ho2.keep hK2 (fun g hg _ e=>by have:=hl2 g hg;omega);have hBf:=((hB2.set 0 (Yv Yi m.rows)).set 1 (Yv Yi m.cols)).set 2 (.slice a2 n c2);have hGw:=(hG0.trans hG2).keep hK2 fun q hq=>by omega
 go_wp2;refine ZF Zc rfl rfl rfl hBf ⟨_,rfl,⟨a2,n,c2,rfl,hof,h.rng,fun g hg=>⟨by have:=hl2 g hg;omega,hof.lt hg⟩,hr,hc⟩,hGw⟩

end Go.Proofs.YtjpcgofidijigaaGreatDoor
