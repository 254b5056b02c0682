/- Values that depend on each other: what can be found, and when. Plain Lean, no program. -/
import Derived.Test.YtjpcgofidijigaaGreatDoorZSum
import Derived.Test.YtjpcgofidijigaaGreatDoorZIsName
namespace Go.Proofs.YtjpcgofidijigaaGreatDoor
open Go.RowKit
variable {F S T:Nat->Prop} {a:Option Addr} {b c cap i k n o p:Nat} {kn:Bool} {nd:Nat->List (Option Nat)} {s:Value} {st st':Nat->Nat} {w w':World}
section
variable {R:Type}
def ZjK:List (Option R)->Option (List R)
 |[]=>some []
 |o::r=>o.bind fun x=>(ZjK r).map fun xs=>x::xs
theorem Zkn {l:List (Option R)} {xs:List R}:ZjK l=some xs↔l=xs.map some:=by
 induction l generalizing xs with
 |nil=>
  simp only[ZjK,Option.some.injEq];constructor
  ·intro h;rw[←h];rfl
  ·intro h;exact (List.map_eq_nil_iff.1 h.symm).symm
 |cons o r ih=>
  simp only[ZjK];cases o with
  |none=>
   constructor
   ·intro h;cases h
   ·intro h;cases xs<;>simp at h
  |some x=>
   rw[Option.bind_some];cases hr:ZjK r with
   |none=>
    constructor
    ·intro h;cases h
    ·intro h;cases xs with
     |nil=>simp at h
     |cons y ys=>simp at h;rw[(ih (xs:=ys)).2 h.2] at hr;cases hr
   |some ys=>
    have h1:=(ih (xs:=ys)).1 hr;constructor
    ·intro h;have:=Option.some.inj h;subst this;rw[h1];rfl
    ·intro h;cases xs with
     |nil=>simp at h
     |cons y zs=>simp at h;have h2:=(ih (xs:=zs)).2 h.2;rw[hr] at h2;obtain rfl:=Option.some.inj h2;rw[h.1];rfl
variable (nd:Nat->List (Option Nat)) (op:Nat->List R->R)
def ev:Nat->Nat->Option R
 |0,_=>none
 |f+1,i=>(ZjK ((nd i).map fun o=>o.bind (ev f))).map (op i)
variable {nd op}
theorem ZeN {f i:Nat} {x:R}:ev nd op (f+1) i=some x↔ ∃ xs,(nd i).map (fun o=>o.bind (ev nd op f))=xs.map some/\x=op i xs:=by
 simp only[ev,Option.map_eq_some_iff];constructor
 ·rintro ⟨xs,h,rfl⟩;exact ⟨xs,Zkn.1 h,rfl⟩
 ·rintro ⟨xs,h,rfl⟩;exact ⟨xs,Zkn.2 h,rfl⟩
theorem ZeR {f i:Nat} {x:R} (h:ev nd op (f+1) i=some x) {o:Option Nat} (ho:o∈nd i): ∃ k y,o=some k/\ev nd op f k=some y:=by
 obtain ⟨xs,h1, -⟩:=ZeN.1 h;have h2:o.bind (ev nd op f)∈xs.map some:=by rw[←h1];exact List.mem_map.2 ⟨o,ho,rfl⟩
 obtain ⟨y, -,hy⟩:=List.mem_map.1 h2;cases o with
 |none=>cases hy
 |some k=>exact ⟨k,y,rfl,hy.symm⟩
theorem ZhU: ∀ {f i:Nat} {x:R},ev nd op f i=some x->ev nd op (f+1) i=some x
 |0,i,x,h=>by cases h
 |f+1,i,x,h=>by obtain ⟨xs,h1,rfl⟩:=ZeN.1 h;refine ZeN.2 ⟨xs, ?_,rfl⟩;rw[←h1];refine List.map_congr_left fun o ho=> ?_;obtain ⟨k,y,rfl,hy⟩:=ZeR h ho;show ev nd op (f+1) k=ev nd op f k;rw[hy,ZhU hy]
theorem ZjF {f g i:Nat} {x:R} (h:ev nd op f i=some x) (hg:f<=g):ev nd op g i=some x:=by
 obtain ⟨d,rfl⟩: ∃ d,g=f+d:=⟨g-f,by omega⟩;induction d with
 |zero=>exact h
 |succ d ih=>exact ZhU (ih (by omega))
theorem Zp1 {f i:Nat} {x:R} (h:ev nd op (f+2) i=some x) (h':ev nd op (f+1) i=none): ∃ k,some k∈nd i/\(∃ y,ev nd op (f+1) k=some y)/\ev nd op f k=none:=by
 refine Classical.byContradiction fun hn=> ?_;obtain ⟨xs,h1,rfl⟩:=ZeN.1 h;have h2:ev nd op (f+1) i=some (op i xs):=by
  refine ZeN.2 ⟨xs, ?_,rfl⟩;rw[←h1];refine List.map_congr_left fun o ho=> ?_;obtain ⟨k,y,rfl,hy⟩:=ZeR h ho;show ev nd op f k=ev nd op (f+1) k;cases hk:ev nd op f k with
  |none=>exact (hn ⟨k,ho,⟨y,hy⟩,hk⟩).elim
  |some z=>rw[ZhU hk]
 rw[h2] at h';cases h'
theorem Zk7 {n:Nat} (hnd: ∀ i,i<n-> ∀ k,some k∈nd i->k<n): ∀ {f i:Nat} {x:R},i<n->ev nd op (f+1) i=some x->ev nd op f i=none-> ∀ g,g<=f-> ∃ j y,j<n/\ev nd op (g+1) j=some y/\ev nd op g j=none
 |0,i,x,hi,h,h',g,hg=>by
  obtain rfl:g=0:=by omega
  exact ⟨i,x,hi,h,h'⟩
 |f+1,i,x,hi,h,h',g,hg=>by
  by_cases e:g=f+1
  ·subst e;exact ⟨i,x,hi,h,h'⟩
  ·obtain ⟨k,hk,⟨y,hy⟩,hk0⟩:=Zp1 h h';exact Zk7 hnd (hnd i hi k hk) hy hk0 g (by omega)
theorem Zq5 {n:Nat} (hnd: ∀ i,i<n-> ∀ k,some k∈nd i->k<n) {f i:Nat} {x:R} (hi:i<n) (h:ev nd op f i=some x):ev nd op n i=some x:=by
 by_cases hf:f<=n
 ·exact ZjF h hf
 ·have key: ∀ d,ev nd op (n+d) i=some x->ev nd op n i=some x:=by
   intro d;induction d with
   |zero=>exact id
   |succ d ih=>
    intro hd;cases hn:ev nd op (n+d) i with
    |some y=>have:=ZhU hn;rw[show n+d+1=n+(d+1) by omega,hd] at this;rw[←Option.some.inj this] at hn;exact ih hn
    |none=>
     exfalso;have hc:=Zk7 hnd (f:=n+d) hi hd hn;obtain ⟨c,hc'⟩: ∃ c:Nat->Nat, ∀ g,g<=n+d->c g<n/\(∃ y,ev nd op (g+1) (c g)=some y)/\ev nd op g (c g)=none:=
      ⟨fun g => if hg : g ≤ n + d then (hc g hg).choose else 0, fun g hg => by
       simp only[dif_pos hg];obtain ⟨y,h1,h2,h3⟩:=(hc g hg).choose_spec;exact ⟨h1,⟨y,h2⟩,h3⟩⟩
     have:=Zje n (n+d+1) c (fun g hg=>(hc' g (by omega)).1) fun g k hg hk e=>by
      obtain ⟨-,⟨y,a1⟩,a2⟩:=hc' g (by omega);obtain ⟨-,⟨z,b1⟩,b2⟩:=hc' k (by omega);rw[←e] at b1 b2;rcases Nat.lt_trichotomy g k with hlt|hlt|hlt
      ·rw[ZjF a1 (by omega)] at b2;cases b2
      ·exact hlt
      ·rw[ZjF b1 (by omega)] at a2;cases a2
     omega
  exact key (f-n) (by rw[show n+(f-n)=f by omega];exact h)
inductive Dep (nd:Nat->List (Option Nat)):Nat->Nat->Prop
 |one {i k:Nat} (h:some k∈nd i):Dep nd i k
 |more {i j k:Nat} (h:some j∈nd i) (r:Dep nd j k):Dep nd i k
theorem Dep.snoc {i j k:Nat} (h:Dep nd i j) (hk:some k∈nd j):Dep nd i k:=by
 induction h with
 |one h=>exact .more h (.one hk)
 |more h _ ih=>exact .more h (ih hk)
theorem Dep.down {i k:Nat} (h:Dep nd i k): ∀ {f:Nat} {x:R},ev nd op f i=some x-> ∃ g y,g<f/\ev nd op g k=some y:=by
 induction h with
 |one h=>
  intro f x hf;cases f with
  |zero=>cases hf
  |succ f=>obtain ⟨k',y,e,hy⟩:=ZeR hf h;obtain rfl:=Option.some.inj e;exact ⟨f,y,by omega,hy⟩
 |more h _ ih=>
  intro f x hf;cases f with
  |zero=>cases hf
  |succ f=>obtain ⟨k',y,e,hy⟩:=ZeR hf h;obtain rfl:=Option.some.inj e;obtain ⟨g,z,hg,hz⟩:=ih hy;exact ⟨g,z,by omega,hz⟩
theorem Dep.cycle {i:Nat} (h:Dep nd i i): ∀ f,ev nd op f i=none:=by
 intro f;induction f using Nat.strongRecOn with
 |_ f ih=>
  cases hf:ev nd op f i with
  |none=>rfl
  |some x=>obtain ⟨g,y,hg,hy⟩:=h.down (op:=op) hf;rw[ih g hg] at hy;cases hy
structure ZhQ (nd:Nat->List (Option Nat)) (op:Nat->List R->R) (n:Nat) (st:Nat->Nat) (res:Nat->R):Prop where
 two: ∀ j,j<n->st j=2->ev nd op n j=some (res j)
 three: ∀ j,j<n->st j=3->ev nd op n j=none
theorem Zm9 {n:Nat} (hnd: ∀ i,i<n-> ∀ k,some k∈nd i->k<n) {i:Nat} (hi:i<n):ev nd op n i=ev nd op (n+1) i:=by
 cases h:ev nd op (n+1) i with
 |some x=>exact Zq5 hnd hi h
 |none=>
  cases h':ev nd op n i with
  |none=>rfl
  |some x=>rw[ZhU h'] at h;cases h
theorem ZmR {n:Nat} (hnd: ∀ i,i<n-> ∀ k,some k∈nd i->k<n) {i:Nat} (hi:i<n) {o:Option Nat} (ho:o∈nd i) (h: ∀ k,o=some k->ev nd op n k=none):ev nd op n i=none:=by
 rw[Zm9 hnd hi];cases h':ev nd op (n+1) i with
 |none=>rfl
 |some x=>obtain ⟨k,y,e,hy⟩:=ZeR h' ho;rw[h k e] at hy;cases hy
theorem ZsH {n:Nat} (hnd: ∀ i,i<n-> ∀ k,some k∈nd i->k<n) {i:Nat} (hi:i<n) {xs:List R} (h:(nd i).map (fun o=>o.bind (ev nd op n))=xs.map some):ev nd op n i=some (op i xs):=by
 rw[Zm9 hnd hi];exact ZeN.2 ⟨xs,h,rfl⟩
end
section
variable {R:Type} {nd:Nat->List (Option Nat)} {op:Nat->List R->R} {n:Nat}
def Stk (nd:Nat->List (Option Nat)) (n:Nat) (st:Nat->Nat) (i:Nat):Prop:= ∀ j,j<n->st j=1->Dep nd j i
structure FndE (nd:Nat->List (Option Nat)) (op:Nat->List R->R) (n:Nat) (st:Nat->Nat) (res:Nat->R) (st':Nat->Nat) (res':Nat->R):Prop where
 inv:ZhQ nd op n st' res'
 keep: ∀ j,j<n->st j≠0->st' j=st j/\(st j=2->res' j=res j)
 news: ∀ j,j<n->st j=0->st' j=0\/st' j=2\/st' j=3
theorem FndE.refl {st:Nat->Nat} {res:Nat->R} (h:ZhQ nd op n st res):FndE nd op n st res st res:=⟨h,fun _ _ _=>⟨rfl,fun _=>rfl⟩,fun _ _ h=> .inl h⟩
theorem FndE.trans {st st' st'':Nat->Nat} {res res' res'':Nat->R} (h:FndE nd op n st res st' res') (h':FndE nd op n st' res' st'' res''):FndE nd op n st res st'' res'':=by
 refine ⟨h'.inv,fun j hj hne=> ?_,fun j hj h0=> ?_⟩
 ·obtain ⟨e1,e2⟩:=h.keep j hj hne;obtain ⟨e3,e4⟩:=h'.keep j hj (by rw[e1];exact hne);exact ⟨e3.trans e1,fun h2=>(e4 (by rw[e1];exact h2)).trans (e2 h2)⟩
 ·rcases h.news j hj h0 with h1|h1|h1
  ·exact h'.news j hj h1
  ·have:=(h'.keep j hj (by omega)).1;omega
  ·have:=(h'.keep j hj (by omega)).1;omega
def zer (st:Nat->Nat):Nat->Nat
 |0=>0
 |n+1=>zer st n+if st n=0 then 1 else 0
theorem ZlZ {st st':Nat->Nat}: ∀ {n:Nat},(∀ j,j<n->st j≠0->st' j≠0)->zer st' n<=zer st n
 |0,_=>Nat.le_refl _
 |n+1,h=>by
  have ih:=ZlZ (n:=n) fun j hj=>h j (by omega);have h1:=h n (by omega);simp only[zer];by_cases e:st n=0
  ·rw[if_pos e];split<;>omega
  ·rw[if_neg e,if_neg (h1 e)];omega
theorem ZoZ {st st':Nat->Nat} {i:Nat}: ∀ {n:Nat},i<n->st i=0->st' i≠0->(∀ j,j<n->st j≠0->st' j≠0)->zer st' n<zer st n
 |0,hi,_,_,_=>by omega
 |n+1,hi,h0,h1,h=>by
  simp only[zer];by_cases e:i=n
  ·subst e;rw[if_pos h0,if_neg h1];have:=ZlZ (n:=i) fun j hj=>h j (by omega);omega
  ·have:=ZoZ (n:=n) (by omega) h0 h1 fun j hj=>h j (by omega);have h2:=h n (by omega);by_cases e2:st n=0
   ·rw[if_pos e2];split<;>omega
   ·rw[if_neg e2,if_neg (h2 e2)];omega
theorem FndE.zer {st st':Nat->Nat} {res res':Nat->R} (h:FndE nd op n st res st' res'):zer st' n<=zer st n:=
 ZlZ fun j hj hne=>by rw[(h.keep j hj hne).1];exact hne
def ZJ (st:Nat->Nat) (i v:Nat):Nat->Nat:=fun j=>if j=i then v else st j
theorem Zqo {st:Nat->Nat} {i v:Nat} (hi:i<n) (h0:st i=0) (hv:v≠0):zer (ZJ st i v) n<zer st n:=
 ZoZ hi h0 (by unfold ZJ;rw[if_pos rfl];exact hv) fun j hj hne=>by
  unfold ZJ;split
  ·exact hv
  ·exact hne
theorem ZpT {st:Nat->Nat} {res:Nat->R} {i:Nat} (h:ZhQ nd op n st res):ZhQ nd op n (ZJ st i 1) res:=by
 refine ⟨fun j hj h2=> ?_,fun j hj h3=> ?_⟩
 ·unfold ZJ at h2;split at h2
  ·omega
  ·exact h.two j hj h2
 ·unfold ZJ at h3;split at h3
  ·omega
  ·exact h.three j hj h3
theorem Zk2 {st:Nat->Nat} {i k:Nat} (h:Stk nd n st i) (hk:some k∈nd i):Stk nd n (ZJ st i 1) k:=fun j hj h1=>by
 unfold ZJ at h1;split at h1
 ·rename_i e;subst e;exact .one hk
 ·exact (h j hj h1).snoc hk
theorem Zq4 {st:Nat->Nat} {i k f:Nat} (h:Stk nd n (ZJ st i 1) k) (hk:some k∈nd i) (hkn:k<n) (h1:ZJ st i 1 k=1):ev nd op f i=none:=by
 have hc:ev nd op f k=none:=(h k hkn h1).cycle f;cases f with
 |zero=>rfl
 |succ f=>
  cases hi:ev nd op (f+1) i with
  |none=>rfl
  |some x=>obtain ⟨k',y,e,hy⟩:=ZeR hi hk;obtain rfl:=Option.some.inj e;rw[ZhU hy] at hc;cases hc
theorem FndE.fin {st st':Nat->Nat} {res res':Nat->R} {i:Nat} (hi:i<n) (h0:st i=0) (h:FndE nd op n (ZJ st i 1) res st' res') {v:Nat} {x:R} (hv:(v=2/\ev nd op n i=some x)\/(v=3/\ev nd op n i=none)):
  FndE nd op n st res (ZJ st' i v) (fun j=>if j=i then x else res' j):=by
 refine ⟨⟨fun j hj h2=> ?_,fun j hj h3=> ?_⟩,fun j hj hne=> ?_,fun j hj hz=> ?_⟩
 ·unfold ZJ at h2;by_cases e:j=i
  ·subst e;rw[if_pos rfl] at h2 ⊢;rcases hv with hv|hv
   ·exact hv.2
   ·omega
  ·rw[if_neg e] at h2 ⊢;exact h.inv.two j hj h2
 ·unfold ZJ at h3;by_cases e:j=i
  ·subst e;rw[if_pos rfl] at h3;rcases hv with hv|hv
   ·omega
   ·exact hv.2
  ·rw[if_neg e] at h3;exact h.inv.three j hj h3
 ·have e:j≠i:=fun e=>hne (by rw[e];exact h0);have h1:ZJ st i 1 j=st j:=by unfold ZJ;rw[if_neg e]
  obtain ⟨e1,e2⟩:=h.keep j hj (by rw[h1];exact hne);rw[h1] at e1 e2;refine ⟨by unfold ZJ;rw[if_neg e];exact e1,fun h2=>by rw[if_neg e];exact e2 h2⟩
 ·by_cases e:j=i
  ·subst e;unfold ZJ;rw[if_pos rfl];rcases hv with hv|hv
   ·exact .inr (.inl hv.1)
   ·exact .inr (.inr hv.1)
  ·have h1:ZJ st i 1 j=st j:=(by unfold ZJ;rw[if_neg e]);have:=h.news j hj (by rw[h1];exact hz);unfold ZJ;rw[if_neg e];exact this
end
structure Rs where
 m:Mat
 fine:Bool
variable {l xs:List Rs} {op:Nat->List Rs->Rs} {r:Rs} {res res':Nat->Rs}
def Rs.isSome (r:Rs):Bool:=r.fine
def rsZ:Mat:={rows:=0,cols:=0,cells:=[]}
def rs0:Rs:=⟨rsZ,false⟩
def rsS (m:Mat):Rs:=⟨m,true⟩
def Zsq:Option Mat->Rs
 |some m=>rsS m
 |none=>rs0
def ZcW (d:Dfn):List ByteArray:=if d.op=0 then [] else if d.op=1\/d.op=2 then [d.a,d.b] else [d.a]
def Zfo (l:List Dfn) (s:ByteArray):Option Nat:=if 0<=ZD l s then some (ZD l s).toNat else none
def ndL (l:List Dfn) (i:Nat):List (Option Nat):=match l[i]? with
 |some d=>(ZcW d).map (Zfo l)
 |none=>[]
def opD (f:Int->Mat->Mat->Option Mat) (d:Dfn) (xs:List Rs):Rs:=
 if d.op=0 then rsS d.value else if xs.all Rs.isSome then Zsq (f d.op (xs.getD 0 rs0).m (xs.getD 1 rs0).m) else rs0
def opL (f:Int->Mat->Mat->Option Mat) (l:List Dfn) (i:Nat) (xs:List Rs):Rs:=match l[i]? with
 |some d=>opD f d xs
 |none=>rs0
def evL (f:Int->Mat->Mat->Option Mat) (l:List Dfn) (i:Nat):Option Rs:=ev (ndL l) (opL f l) l.length i
def Zsn (f:Int->Mat->Mat->Option Mat) (l:List Dfn) (i:Nat):Rs:=(evL f l i).getD rs0
theorem ZlM {l:List Dfn} {s:ByteArray} (h:Zfo l s=some k):k<l.length:=by
 unfold Zfo at h;split at h
 ·have:=Zd8 (fun d:Dfn=>d.name.toList==s.toList) l;have h2:=Option.some.inj h;have h3:ZD l s=firstIdx (fun d:Dfn=>d.name.toList==s.toList) l:=rfl;omega
 ·cases h
theorem ZsJ {l:List Dfn}: ∀ i,i<l.length-> ∀ k,some k∈ndL l i->k<l.length:=fun i _ k h=>by
 unfold ndL at h;split at h
 ·obtain ⟨s, -,hs⟩:=List.mem_map.1 h;exact ZlM hs
 ·cases h
theorem Zj6 {l:List Dfn} (h:ZV l=true):(∀ d∈l,Zac d=true)/\l.length<=12:=by
 have hg: ∀ k,k<l.length->ZaI l k=true:=fun k hk=>by
  cases hb:ZaI l k with
  |true=>rfl
  |false=>rw[ZeZ hk hb] at h;cases h
 refine ⟨fun d hd=> ?_,by rw[Zht hg] at h;exact of_decide_eq_true h⟩;obtain ⟨k,hk,rfl⟩:=List.getElem_of_mem hd;have h1:=hg k hk;unfold ZaI at h1;rw[List.getElem?_eq_getElem hk] at h1;simp only[Bool.and_eq_true] at h1;exact h1.1
def rsM (r:Rs):Mat:=r.m
def Zce (r:Rs) (s:Value):List Value:=[.int .i64 (rsM r).rows, .int .i64 (rsM r).cols,s, .bool r.isSome]
def ZcO:List Rs->List Value->List Value
 |r::l,s::ss=>Zce r s++ZcO l ss
 |_,_=>[]
theorem ZlK: ∀ {l:List Rs} {ss:List Value},ss.length=l.length->(ZcO l ss).length=l.length*4
 |[],[],_=>rfl
 |[],_::_,h=>by simp at h
 |_::_,[],h=>by simp at h
 |d::l,s::ss,h=>by simp only[ZcO,List.length_append,ZlK (l:=l) (ss:=ss) (by simpa using h),Zce,List.length_cons,List.length_nil];omega
theorem ZdL: ∀ {l:List Rs} {ss:List Value} {k j:Nat} {r:Rs} {s:Value},l[k]? =some r->ss[k]? =some s->j<4->(ZcO l ss)[k*4+j]? =(Zce r s)[j]?
 |[],_,k,j,d,s,h,_,_=>by simp at h
 |_::_,[],k,j,d,s,_,h,_=>by simp at h
 |d'::l,s'::ss,0,j,d,s,h,h',hj=>by simp at h h';subst h;subst h';simp only[ZcO];rw[List.getElem?_append_left (by simp[Zce];omega)];simp
 |d'::l,s'::ss,k+1,j,d,s,h,h',hj=>by simp only[ZcO];rw[List.getElem?_append_right (by simp[Zce];omega),show (k+1)*4+j-(Zce d' s').length=k*4+j from by simp[Zce];omega];exact ZdL (by simpa using h) (by simpa using h') hj
theorem ZlR: ∀ {l:List Rs} {ss:List Value} {k:Nat} {r:Rs} {s:Value},ss.length=l.length->k<l.length->
  ((((ZcO l ss).set (k*4) (.int .i64 (rsM r).rows)).set (k*4+1) (.int .i64 (rsM r).cols)).set (k*4+2) s).set (k*4+3) (.bool r.isSome)=ZcO (l.set k r) (ss.set k s)
 |[],_,k,r,s,_,hk=>by simp at hk
 |_::_,[],k,r,s,h,_=>by simp at h
 |d'::l,s'::ss,0,r,s,h,_=>by simp[ZcO,Zce]
 |d'::l,s'::ss,k+1,r,s,h,hk=>by
  have ih:=ZlR (l:=l) (ss:=ss) (k:=k) (r:=r) (s:=s) (by simpa using h) (by simpa using hk);have e0:(k+1)*4=k*4+4:=by omega
  simp only[ZcO,Zce,List.set_cons_succ,List.cons_append,List.nil_append];rw[show (k+1)*4=k*4+1+1+1+1 by omega];simp only[show k*4+1+1+1+1+1=(k*4+1)+1+1+1+1 by omega,show k*4+1+1+1+1+2=(k*4+2)+1+1+1+1 by omega,show k*4+1+1+1+1+3=(k*4+3)+1+1+1+1 by omega,List.set_cons_succ];rw[ih]
def ZbS (l:List Rs):List (List Int):=l.map fun r=>(rsM r).cells
@[simp] theorem ZsV (l:List Rs):(ZbS l).length=l.length:=by simp[ZbS]
theorem Zcp (h:l[k]? =some r):(ZbS l)[k]? =some (rsM r).cells:=by simp[ZbS,h]
def ROk (r:Rs):Prop:=I64 (rsM r).rows/\I64 (rsM r).cols
structure RdR (w:World) (S:Nat->Prop) (a:Option Addr) (n cap:Nat) (l:List Rs):Prop where
 row: ∃ ss:List Value,ss.length=l.length/\Row w S 4 a n cap (ZcO l ss)/\RdCells w S ss (ZbS l)
 len:l.length=n
 ok: ∀ r∈l,ROk r
theorem RdR.keep (h:RdR w S a n cap l) (hk:Keep T w w') (hST: ∀ b,b<w.heap.size->S b->T b):RdR w' S a n cap l:=by
 obtain ⟨⟨ss,h0,h1,h2⟩,hl,ho⟩:=h;exact ⟨⟨ss,h0,h1.keep hk hST,h2.keep hk hST⟩,hl,ho⟩
theorem RdR.grow (h:RdR w S a n cap l) (hk:Grow w w'):RdR w' S a n cap l:=h.keep hk fun _ _ _=>trivial
structure RAt (w:World) (b o:Nat) (r:Rs) (s:Value):Prop where
 c0:w.cell? ⟨b,o,none⟩=some (.int .i64 (rsM r).rows)
 c1:w.cell? ⟨b,o+1,none⟩=some (.int .i64 (rsM r).cols)
 c2:w.cell? ⟨b,o+2,none⟩=some s
 c3:w.cell? ⟨b,o+3,none⟩=some (.bool r.isSome)
theorem RAt.keep (h:RAt w b o r s) (hk:Keep S w w') (hS:S b):RAt w' b o r s:=
 ⟨hk.cell hS h.c0,hk.cell hS h.c1,hk.cell hS h.c2,hk.cell hS h.c3⟩
theorem RAt.grow (h:RAt w b o r s) (hk:Grow w w'):RAt w' b o r s:=h.keep hk trivial
theorem RdR.at (h:RdR w S a n cap l) (hk:k<n):
  ∃ b off r a1 c1,a=some ⟨b,off,none⟩/\l[k]? =some r/\S b/\b<w.heap.size/\RAt w b (off+k*4) r (.slice a1 (rsM r).cells.length c1)/\RdI w S a1 (rsM r).cells.length c1 (rsM r).cells/\ROk r:=by
 obtain ⟨⟨ss,h0,h1,h2⟩,hl,ho⟩:=h;have hlt:k<l.length:=by omega
 have hk':l[k]? =some l[k]:=List.getElem?_eq_getElem hlt;obtain ⟨a1,c1,h3,h4⟩:=h2 _ _ (Zcp hk');obtain ⟨b,off,ha,hS,hc⟩:=h1.addr (by
  intro e;have:=ZdL (j:=0) hk' h3 (by omega);rw[e] at this;simp[Zce] at this)
 have key: ∀ j v,j<4->(Zce l[k] (.slice a1 (rsM l[k]).cells.length c1))[j]? =some v->w.cell? ⟨b,off+k*4+j,none⟩=some v:=fun j v hj hv=>by rw[Nat.add_assoc];exact hc _ _ (by rw[ZdL hk' h3 hj];exact hv)
 have k0:=key 0 _ (by omega) rfl;exact ⟨b,off,l[k],a1,c1,ha,hk',hS,World.block_lt_of_cell? w _ k0,⟨k0,key 1 _ (by omega) rfl,key 2 _ (by omega) rfl,key 3 _ (by omega) rfl⟩,h4,ho _ (List.getElem_mem hlt)⟩
def two (st:Nat->Nat):Nat->Nat
 |0=>0
 |n+1=>two st n+if st n=2 then 1 else 0
theorem Zjs {st:Nat->Nat} {i v:Nat}: ∀ {n:Nat},two (ZJ st i v) n+(if i<n/\st i=2 then 1 else 0)=two st n+if i<n/\v=2 then 1 else 0
 |0=>by simp[two]
 |n+1=>by
  have ih:=Zjs (st:=st) (i:=i) (v:=v) (n:=n);simp only[two];by_cases e:n=i
  ·subst e;have e1:ZJ st n v n=v:=(by unfold ZJ;rw[if_pos rfl]);rw[e1];simp at ih ⊢;omega
  ·have e1:ZJ st i v n=st n:=(by unfold ZJ;rw[if_neg e]);rw[e1];by_cases h:i<n
   ·have h2:i<n+1:=(by omega);simp[h,h2] at ih ⊢;omega
   ·have h2: ¬ i<n+1:=(by omega);simp[h,h2] at ih ⊢;omega
theorem ZhG {st:Nat->Nat} {i v:Nat} (hv:v≠0): ∀ {n:Nat},zer (ZJ st i v) n+(if i<n/\st i=0 then 1 else 0)=zer st n
 |0=>by simp[zer]
 |n+1=>by
  have ih:=ZhG (st:=st) (i:=i) hv (n:=n);simp only[zer];by_cases e:n=i
  ·subst e;have e1:ZJ st n v n=v:=(by unfold ZJ;rw[if_pos rfl]);rw[e1,if_neg hv];simp at ih ⊢;omega
  ·have e1:ZJ st i v n=st n:=(by unfold ZJ;rw[if_neg e]);rw[e1];by_cases h:i<n
   ·have h2:i<n+1:=(by omega);simp[h,h2] at ih ⊢;omega
   ·have h2: ¬ i<n+1:=(by omega);simp[h,h2] at ih ⊢;omega
theorem FndE.one (h:FndE nd op n st res st' res') {j:Nat} (hj:j<n) (h1:st' j=1):st j=1:=by
 by_cases h0:st j=0
 ·have:=h.news j hj h0;omega
 ·have:=(h.keep j hj h0).1;omega
theorem FndE.stk (h:FndE nd op n st res st' res') (hs:Stk nd n st k):Stk nd n st' k:=fun j hj h1=>hs j hj (h.one hj h1)
def PR (nd:Nat->List (Option Nat)) (op:Nat->List Rs->Rs) (n i:Nat) (k:Nat) (xs:List Rs) (kn:Bool) (st:Nat->Nat) (res:Nat->Rs):Prop:=
 xs.length<=k/\(∀ x∈xs,ROk x/\(rsM x).cells.length<=1048576)/\(kn=false->ev nd op n i=none)/\
  (kn=true->xs.length=k/\ ∀ j,j<k-> ∃ p,(nd i)[j]? =some (some p)/\p<n/\st p=2/\xs[j]? =some (res p))
theorem PR.start (nd:Nat->List (Option Nat)) (op:Nat->List Rs->Rs) (n i:Nat) (st:Nat->Nat) (res:Nat->Rs):PR nd op n i 0 [] true st res:=
 ⟨Nat.le_refl _,(fun x hx=>by cases hx),(fun h=>by cases h),fun _=>⟨rfl,fun j hj=>by omega⟩⟩
theorem PR.on (h:PR nd op n i k xs kn st res) (hF:FndE nd op n st res st' res'):PR nd op n i k xs kn st' res':=by
 obtain ⟨h1,h2,h3,h4⟩:=h;refine ⟨h1,h2,h3,fun e=>⟨(h4 e).1,fun j hj=> ?_⟩⟩;obtain ⟨p,g1,g2,g3,g4⟩:=(h4 e).2 j hj;obtain ⟨e1,e2⟩:=hF.keep p g2 (by omega);exact ⟨p,g1,g2,by omega,by rw[e2 g3];exact g4⟩
theorem PR.miss (h:PR nd op n i k xs kn st res) (hn:ev nd op n i=none):PR nd op n i (k+1) xs false st res:=
 ⟨by have:=h.1;omega,h.2.1,fun _=>hn,fun e=>by cases e⟩
theorem PR.add (h:PR nd op n i k xs kn st res) (hp:(nd i)[k]? =some (some p)) (hpn:p<n) (h2:st p=2) (hok:ROk (res p)/\(rsM (res p)).cells.length<=1048576):PR nd op n i (k+1) (xs++[res p]) kn st res:=by
 obtain ⟨g1,g2,g3,g4⟩:=h;refine ⟨by simp;omega,fun x hx=> ?_,g3,fun e=>⟨by simp[(g4 e).1],fun j hj=> ?_⟩⟩
 ·rcases List.mem_append.1 hx with hx|hx
  ·exact g2 x hx
  ·rw[List.mem_singleton.1 hx];exact hok
 ·by_cases e2:j=k
  ·subst e2;exact ⟨p,hp,hpn,h2,by rw[List.getElem?_append_right (by rw[(g4 e).1];exact Nat.le_refl _),(g4 e).1];simp⟩
  ·obtain ⟨p',q1,q2,q3,q4⟩:=(g4 e).2 j (by omega);exact ⟨p',q1,q2,q3,by rw[List.getElem?_append_left (by rw[(g4 e).1];omega)];exact q4⟩
theorem PR.no (h:PR nd op n i k xs false st res):ev nd op n i=none:=h.2.2.1 rfl
theorem PR.yes (h:PR nd op n i k xs true st res) (hk:k=(nd i).length) (hI:ZhQ nd op n st res) (hi:i<n) (hnd: ∀ i,i<n-> ∀ k,some k∈nd i->k<n):ev nd op n i=some (op i xs):=by
 obtain ⟨g1,g2,g3,g4⟩:=h;obtain ⟨g5,g6⟩:=g4 rfl;refine ZsH hnd hi (List.ext_getElem? fun j=> ?_);rw[List.getElem?_map,List.getElem?_map];by_cases hj:j<k
 ·obtain ⟨p,q1,q2,q3,q4⟩:=g6 j hj;rw[q1,q4];show some ((some p).bind (ev nd op n))=some (some (res p));rw[Option.bind_some,hI.two p q2 q3]
 ·rw[List.getElem?_eq_none (by omega),List.getElem?_eq_none (by omega)];rfl
theorem ZpW (hi:i<n) (hp:some p∈nd i) (hpn:p<n) (hnd: ∀ i,i<n-> ∀ k,some k∈nd i->k<n) (hF:FndE nd op n (ZJ st i 1) res st' res') (hs:Stk nd n (ZJ st i 1) p) (h0:st' p≠0) (h2:st' p≠2) (h3:st' p<=3):ev nd op n i=none:=by
 by_cases h1:st' p=1
 ·exact Zq4 hs hp hpn (hF.one hpn h1)
 ·have h3:st' p=3:=by omega
  exact ZmR hnd hi hp fun k hk=>by rw[←Option.some.inj hk];exact hF.inv.three p hpn h3
structure SepR (w:World) (F:Nat->Prop) (a:Option Addr) (n c:Nat) (l:List Rs):Prop where
 own: ∃ ss,Own w 74 4 a n c (ZcO l ss)/\Inner w F (blk a) ss (ZbS l)
 len:l.length=n
 ok: ∀ r∈l,ROk r
 low: ∀ g,blk a=some g->F g
theorem SepR.rdR (h:SepR w F a n c l) (hS: ∀ b,F b->S b):RdR w S a n c l:=by
 obtain ⟨⟨ss,h1,h2⟩,h3,h4,h5⟩:=h;exact ⟨⟨ss,by have:=h2.len;simpa using this,h1.row fun q hq=>hS q (h5 q hq),h2.rdCells fun b hb _=>hS b hb⟩,h3,h4⟩
theorem SepR.keep (h:SepR w F a n c l) (hk:Keep T w w') (hT: ∀ b,b<w.heap.size->F b->T b):SepR w' F a n c l:=by
 obtain ⟨⟨vs,h1,h2⟩,hl,ho,h3⟩:=h;exact ⟨⟨vs,h1.keep hk (fun g hg hlt=>hT g hlt (h3 g hg)),h2.keep hk (fun b hb hF _=>hT b hb hF)⟩,hl,ho,h3⟩
theorem SepR.grow (h:SepR w F a n c l) (hk:Grow w w'):SepR w' F a n c l:=h.keep hk fun _ _ _=>trivial
theorem SepR.weak {G:Nat->Prop} (h:SepR w F a n c l) (hF: ∀ b,b<w.heap.size->F b->G b):SepR w G a n c l:=by
 obtain ⟨⟨vs,h1,h2⟩,hl,ho,h3⟩:=h;exact ⟨⟨vs,h1,h2.weak fun b hb hF' hne=>⟨hF b hb hF',hne⟩⟩,hl,ho,fun g hg=>hF g (h1.lt hg) (h3 g hg)⟩

end Go.Proofs.YtjpcgofidijigaaGreatDoor
