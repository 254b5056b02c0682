/- Sums, integer matrices as functions, and what divides what: plain. -/
import Derived.Test.YtgjefeiddfjjnaaGreatDoorZSheet
import Derived.Test.YtgjefeiddfjjnaaGreatDoorZRatI
set_option maxHeartbeats 8000000
set_option maxRecDepth 100000
namespace Go.Proofs.YtgjefeiddfjjnaaGreatDoor
open Go.RowKit
open Lib (hid)
open Grow renaming refl->JH
open Int renaming dvd_zero->PP,emod_eq_of_lt->PQ,mul_comm->Od,toNat_of_nonneg->N7,zero_mul->PO
open List renaming getElem?_append_left->Lc,getElem?_append_right->KS,getElem?_eq_getElem->JR,getElem?_eq_none->K3,getElem?_map->KG,length_append->JY,length_cons->Kw,map_congr_left->Lu,mem_append->Kg,mem_map->Kc,mem_singleton->Kv,range->JN,set_cons_succ->KC
open Nat renaming add_mul->Ki,div_add_mod->N0,div_lt_of_lt_mul->Mv,le_refl->JM,le_trans->K6,mod_lt->Lh,mul_comm->KT,mul_le_mul_right->K9,pos_of_ne_zero->Nw,zero_le->JI
open Option.some renaming inj->JJ,injEq->L7
variable {C N R R' R1 R2 R3 b c cap i j k n o p:Nat} {F S T:Nat->Prop} {a:Option Addr} {d v:Nat->Int} {kn:Bool} {lo:Int} {nd:Nat->List (Option Nat)} {s:Value} {st st':Nat->Nat} {w w':World}
--BODY
def sm:Nat->(Nat->Int)->Int
 |0,_=>0
 |n+1,f=>sm n f+f n
theorem Zfc {f g:Nat->Int}: ∀ {n:Nat},(∀ i,i<n->f i=g i)->sm n f=sm n g
 |0,_=>rfl
 |n+1,h=>by simp only[sm];rw[Zfc fun i hi=>h i I,h n I]
theorem Zjh {f:Nat->Int}: ∀ {n:Nat},(∀ i,i<n->f i=0)->sm n f=0
 |0,_=>rfl
 |n+1,h=>by simp only[sm];rw[Zjh fun i hi=>h i I,h n I];rfl
theorem ZsL (f g:Nat->Int): ∀ n:Nat,sm n (fun i=>f i+g i)=sm n f+sm n g
 |0=>rfl
 |n+1=>by simp only[sm];rw[ZsL f g n];omega
theorem ZnM (c:Int) (f:Nat->Int): ∀ n:Nat,sm n (fun i=>c*f i)=c*sm n f
 |0=>by simp[sm]
 |n+1=>by simp only[sm];rw[ZnM c f n,Int.mul_add]
theorem Zu3 (c:Int) (f:Nat->Int) (n:Nat):sm n (fun i=>f i*c)=sm n f*c:=by
 rw[Od, ←ZnM];exact Zfc fun i _=>Od _ _
theorem ZpL (f:Nat->Nat->Int): ∀ n m:Nat,sm n (fun i=>sm m fun j=>f i j)=sm m (fun j=>sm n fun i=>f i j)
 |0,m=>(Zjh fun _ _=>rfl).symm
 |n+1,m=>by simp only[sm];rw[ZpL f n m, ←ZsL]
theorem Zna {f:Nat->Int} {c:Nat}: ∀ {n:Nat},c<n->(∀ i,i<n->i≠c->f i=0)->sm n f=f c
 |0,h,_=>I
 |n+1,h,hz=>by
  simp only[sm];by_cases e:c=n
  ·subst e;rw[Zjh fun i hi=>hz i I I];omega
  ·rw[Zna I fun i hi=>hz i I,hz n I (fun e2=>e e2.symm)];omega
abbrev Mx:=Nat->Nat->Int
variable {A A' B B' M M' M1 M2 M3:Mx}
def mm (n:Nat) (A B:Mx):Mx:=fun i j=>sm n fun k=>A i k*B k j
theorem Zh1 (n m:Nat) (A B D:Mx) (i j:Nat):mm m (mm n A B) D i j=mm n A (mm m B D) i j:=by
 unfold mm;rw[Zfc (g:=fun k=>sm n fun q=>A i q*B q k*D k j) fun k _=>(Zu3 _ _ _).symm,ZpL];refine Zfc fun k _=> ?_;rw[←ZnM];exact Zfc fun q _=>Int.mul_assoc _ _ _
theorem Zm8 (h1: ∀ k,k<n->A i k=A' i k) (h2: ∀ k,k<n->B k j=B' k j):mm n A B i j=mm n A' B' i j:=
 Zfc fun k a=>by rw[h1 k a,h2 k a]
def ZhD:Mx:=fun i j=>if i=j then 1 else 0
theorem Zpz (hi:i<n):mm n ZhD A i j=A i j:=by
 unfold mm;rw[Zna hi fun k _ a=>by unfold ZhD;rw[if_neg fun e=>a e.symm,PO]];unfold ZhD;rw[if_pos rfl,Int.one_mul]
theorem ZvA (hj:j<n):mm n A ZhD i j=A i j:=by
 unfold mm;rw[Zna hj fun k _ a=>by unfold ZhD;rw[if_neg a,Int.mul_zero]];unfold ZhD;rw[if_pos rfl,Int.mul_one]
def Fct (R' C':Nat) (M':Mx) (R C:Nat) (M:Mx):Prop:= ∃ A B:Mx, ∀ i j,i<R'->j<C'->M' i j=mm C (mm R A M) B i j
theorem Fct.refl (R C:Nat) (M:Mx):Fct R C M R C M:=⟨ZhD,ZhD,fun i j a b=>by rw[ZvA b,Zpz a]⟩
theorem ZlU (h: ∀ k,k<n->B k j=B' k j):mm n A B i j=mm n A B' i j:=Zm8 (fun _ _=>rfl) h
theorem Zl0 (h: ∀ k,k<n->A i k=A' i k):mm n A B i j=mm n A' B i j:=Zm8 h fun _ _=>rfl
theorem Fct.trans {C1 C2 C3:Nat} (h:Fct R1 C1 M1 R2 C2 M2) (h':Fct R2 C2 M2 R3 C3 M3):Fct R1 C1 M1 R3 C3 M3:=by
 obtain ⟨A,B,h⟩:=h;obtain ⟨a,B',h'⟩:=h';refine ⟨mm R2 A a,mm C2 B' B,fun i j b c=> ?_⟩;rw[h i j b c];have d: ∀ k,k<C2->mm R2 A M2 i k=mm C3 (mm R3 (mm R2 A a) M3) B' i k:=fun k e=>by rw[ZlU (B':=mm C3 (mm R3 a M3) B') fun q f=>h' q k f e, ←Zh1];exact Zl0 fun q _=>(Zh1 _ _ _ _ _ _ _).symm
 rw[Zl0 d,Zh1]
def Rwf (R':Nat) (M':Mx) (R C:Nat) (M:Mx):Prop:= ∃ A:Mx, ∀ i j,i<R'->j<C->M' i j=mm R A M i j
theorem Rwf.refl (R C:Nat) (M:Mx):Rwf R M R C M:=⟨ZhD,fun _ _ a _=>(Zpz a).symm⟩
theorem Rwf.trans (h:Rwf R1 M1 R2 C M2) (h':Rwf R2 M2 R3 C M3):Rwf R1 M1 R3 C M3:=by
 obtain ⟨A,h⟩:=h;obtain ⟨a,h'⟩:=h';refine ⟨mm R2 A a,fun i j c b=> ?_⟩;rw[h i j c b,ZlU (B':=mm R3 a M3) fun q d=>h' q j d b,Zh1]
def Spn (R C:Nat) (M:Mx) (v:Nat->Int):Prop:= ∃ a:Nat->Int, ∀ j,j<C->v j=sm R fun i=>a i*M i j
theorem Rwf.of_rows (h: ∀ i,i<R'->Spn R C M (M' i)):Rwf R' M' R C M:=by
 have c: ∀ i, ∃ a:Nat->Int,i<R'-> ∀ j,j<C->M' i j=sm R fun q=>a q*M q j:=fun i=>by
  by_cases b:i<R'
  ·obtain ⟨a,d⟩:=h i b;exact ⟨a,fun _=>d⟩
  ·exact ⟨fun _=>0,fun h=>(b h).elim⟩
 exact ⟨fun i=>(c i).choose,fun i j b e=>(c i).choose_spec b j e⟩
theorem Rwf.row (h:Rwf R' M' R C M) (hi:i<R'):Spn R C M (M' i):=by
 obtain ⟨A,h⟩:=h;exact ⟨A i,fun j a=>h i j hi a⟩
theorem Spn.of_rwf (h:Spn R' C M' v) (h':Rwf R' M' R C M):Spn R C M v:=by
 have:Rwf 1 (fun _=>v) R' C M':=Rwf.of_rows fun _ _=>h;exact (this.trans h').row (i:=0) I
theorem Spn.row (hi:i<R):Spn R C M (M i):=(Rwf.refl R C M).row hi
theorem Spn.zero (h: ∀ j,j<C->v j=0):Spn R C M v:=⟨fun _=>0,fun j a=>by rw[h j a,Zjh fun _ _=>PO _]⟩
theorem Spn.congr {u:Nat->Int} (h:Spn R C M v) (e: ∀ j,j<C->u j=v j):Spn R C M u:=by
 obtain ⟨a,c⟩:=h;exact ⟨a,fun j b=>(e j b).trans (c j b)⟩
theorem Spn.sum {u:Nat->Nat->Int} {a:Nat->Int} {x:Nat->Int} (h: ∀ k,k<n->Spn R C M (u k)) (e: ∀ j,j<C->x j=sm n fun k=>a k*u k j):Spn R C M x:=by
 have:Rwf n u R C M:=Rwf.of_rows h;exact Spn.of_rwf ⟨a,e⟩ this
theorem Zkv: ∀ (M N:Nat) (g:Nat->Nat),(∀ i,i<N->g i<M)->(∀ i k,i<N->k<N->g i=g k->i=k)->N<=M
 |0,N,g,h1,_=>by
  cases N with
  |zero=>exact JE
  |succ N=>exact absurd (h1 0 I) I
 |M+1,N,g,h1,h2=>by
  by_cases h: ∃ i,i<N/\g i=M
  ·obtain ⟨p,hp,hpM⟩:=h;have:=Zkv M (N-1) (fun i=>g (if i<p then i else i+1)) (fun i hi=>by
    have h3:=h1 (if i<p then i else i+1) CK;have h4:g (if i<p then i else i+1)≠M:=fun e=>(by have:=h2 _ p CK hp (e.trans hpM.symm);split at this<;>omega);show g (if i<p then i else i+1)<M;omega) (fun i k hi hk e=>by
    have:=h2 _ _ CK CK e;split at this<;>split at this<;>omega)
   omega
  ·have:=Zkv M N g (fun i hi=>by
    have h3:=h1 i hi;have h4:g i≠M:=fun e=>h ⟨i,hi,e⟩;omega) h2
   omega
abbrev Vc:=Nat->Int
variable {K L:Vc->Prop}
structure Lt (L:Vc->Prop):Prop where
 zero:L fun _=>0
 add: ∀ v w,L v->L w->L fun j=>v j+w j
 neg: ∀ v,L v->L fun j=> -v j
theorem Lt.sub (h:Lt L) {v w:Vc} (hv:L v) (hw:L w):L fun j=>v j-w j:=by
 have:=h.add _ _ hv (h.neg _ hw);simpa [Int.sub_eq_add_neg] using this
def Ix (K L:Vc->Prop) (N:Nat):Prop:= ∃ f:Nat->Vc,(∀ i,i<N->K (f i))/\(∀ v,K v-> ∃ i,i<N/\L fun j=>v j-f i j)/\ ∀ i k,i<N->k<N->(L fun j=>f i j-f k j)->i=k
theorem Ix.le (hL:Lt L) {M:Nat} (h:Ix K L N) (h':Ix K L M):N<=M:=by
 obtain ⟨f,b,p,m⟩:=h;obtain ⟨g,r,c,s⟩:=h'
 let q:Nat->Nat:=fun i=>if hi:i<N then (c (f i) (b i hi)).choose else 0
 have a: ∀ i,i<N->q i<M/\L fun j=>f i j-g (q i) j:=fun i hi=>by have:=(c (f i) (b i hi)).choose_spec;simp only[q,dif_pos hi];exact this
 refine Zkv M N q (fun i hi=>(a i hi).1) fun i k hi d e=>m i k hi d ?_;have n:=(a i hi).2;have l:=(a k d).2;rw[←e] at l;have:=hL.sub n l;have o:(fun j=>f i j-g (q i) j-(f k j-g (q i) j))=fun j=>f i j-f k j:=F4
 rw[o] at this;exact this
theorem Ix.same (hL:Lt L) {M:Nat} (h:Ix K L N) (h':Ix K L M):N=M:=Nat.le_antisymm (h.le hL h') (h'.le hL h)
theorem Ix.tower {J:Vc->Prop} (hK:Lt K) (hLK: ∀ v,L v->K v) (hKJ: ∀ v,K v->J v) (hJ:Lt J) {M:Nat} (h:Ix J K N) (h':Ix K L M):Ix J L (N*M):=by
 obtain ⟨f,s,t,w⟩:=h;obtain ⟨g,m,z,A⟩:=h';refine ⟨fun x j=>f (x/M) j+g (x%M) j,fun x a=> ?_,fun v B=> ?_,fun x y a C e=> ?_⟩
 ·have c:0<M:=Nw fun e=>by rw[e] at a;simp at a
  exact hJ.add _ _ (s _ (Mv (by rw[KT];exact a))) (hKJ _ (m _ (Lh _ c)))
 ·obtain ⟨i,D,d⟩:=t v B;obtain ⟨k,o,p⟩:=z _ d;refine ⟨i*M+k, ?_, ?_⟩
  ·have:(i+1)*M<=N*M:=K9 _ D;rw[Ki] at this;omega
  ·have l:(i*M+k)/M=i:=(by rw[KT,Nat.mul_add_div I,Nat.div_eq_of_lt o];rfl);have n:(i*M+k)%M=k:=(by rw[KT,Nat.mul_add_mod,Nat.mod_eq_of_lt o]);simp only[l,n];have b:(fun j=>v j-f i j-g k j)=fun j=>v j-(f i j+g k j):=F4;rw[b] at p;exact p
 ·have c:0<M:=Nw fun e=>by rw[e] at a;simp at a
  have q:=Lh x c;have r:=Lh y c;have l:x/M=y/M:=by refine w _ _ (Mv (by rw[KT];exact a)) (Mv (by rw[KT];exact C)) ?_;have d:=hK.sub (hLK _ e) (hK.sub (m _ q) (m _ r));have b:(fun j=>f (x/M) j+g (x%M) j-(f (y/M) j+g (y%M) j)-(g (x%M) j-g (y%M) j))=fun j=>f (x/M) j-f (y/M) j:=F4;rw[b] at d;exact d
  have n:x%M=y%M:=by refine A _ _ q r ?_;simp only[l] at e;have b:(fun j=>f (y/M) j+g (x%M) j-(f (y/M) j+g (y%M) j))=fun j=>g (x%M) j-g (y%M) j:=F4;rw[b] at e;exact e
  have E:=N0 x M;have F:=N0 y M;rw[l,n] at E;omega
def Dv (d:Nat->Int) (n:Nat):Vc->Prop:=fun v=> ∀ j,j<n->d j∣v j
theorem Dv.lt:Lt (Dv d n):=
 ⟨fun _ _=>PP _,fun _ _ b c j a=>Int.dvd_add (b j a) (c j a),fun _ b j a=>Int.dvd_neg.2 (b j a)⟩
def pdN (d:Nat->Int):Nat->Nat
 |0=>1
 |n+1=>pdN d n*(d n).toNat
theorem Ix.dv_one (hd:0<d n):Ix (Dv d n) (Dv d (n+1)) (d n).toNat:=by
 refine ⟨fun i j=>if j=n then (i:Int) else 0,fun i _ j a=> ?_,fun v b=> ?_,fun i k g l e=> ?_⟩
 ·show d j∣(if j=n then (i:Int) else 0);rw[if_neg I];exact PP _
 ·have c:=Int.emod_nonneg (v n) (show d n≠0 by omega);have m:=Int.emod_lt_of_pos (v n) hd;refine ⟨(v n%d n).toNat,I,fun j a=> ?_⟩;show d j∣v j-(if j=n then (((v n%d n).toNat:Nat):Int) else 0);by_cases e:j=n
  ·subst e;rw[if_pos rfl,N7 c];exact Int.dvd_self_sub_emod
  ·rw[if_neg e,Int.sub_zero];exact b j I
 ·have h:=e n I;simp only[if_true] at h;have f:(i:Int)%d n=(k:Int)%d n:=Int.emod_eq_emod_iff_emod_sub_eq_zero.2 (Int.emod_eq_zero_of_dvd h);rw[PQ I I,PQ I I] at f;omega
theorem Ix.dv {d:Nat->Int} (hd: ∀ j,0<d j): ∀ n,Ix (fun _=>True) (Dv d n) (pdN d n)
 |0=>⟨fun _ _=>0,fun _ _=>trivial,fun v _=>⟨0,Nat.one_pos,fun j hj=>I⟩,fun i k hi hk _=>by simp only[pdN] at hi hk;omega⟩
 |n+1=>Ix.tower Dv.lt (fun v hv j hj=>hv j I) (fun _ _=>trivial) ⟨trivial,fun _ _ _ _=>trivial,fun _ _=>trivial⟩ (Ix.dv hd n) (Ix.dv_one (hd n))
section
variable {R:Type}
def Zls:List (Option R)->Option (List R)
 |[]=>some []
 |o::r=>o.bind fun x=>(Zls r).map fun xs=>x::xs
theorem Zl3 {l:List (Option R)} {xs:List R}:Zls l=some xs↔l=xs.map some:=by
 induction l generalizing xs with
 |nil=>
  simp only[Zls,L7];constructor
  ·intro h;rw[←h];rfl
  ·intro h;exact (List.map_eq_nil_iff.1 h.symm).symm
 |cons o r b=>
  simp only[Zls];cases o with
  |none=>
   constructor
   ·intro h;cases h
   ·intro h;cases xs<;>simp at h
  |some x=>
   rw[Option.bind_some];cases a:Zls r with
   |none=>
    constructor
    ·intro h;cases h
    ·intro h;cases xs with
     |nil=>simp at h
     |cons y c=>simp at h;rw[(b (xs:=c)).2 h.2] at a;cases a
   |some c=>
    have e:=(b (xs:=c)).1 a;constructor
    ·intro h;have:=JJ h;subst this;rw[e];rfl
    ·intro h;cases xs with
     |nil=>simp at h
     |cons y f=>simp at h;have d:=(b (xs:=f)).2 h.2;rw[a] at d;obtain rfl:=JJ d;rw[h.1];rfl
variable (nd:Nat->List (Option Nat)) (op:Nat->List R->R)
def ev:Nat->Nat->Option R
 |0,_=>none
 |f+1,i=>(Zls ((nd i).map fun o=>o.bind (ev f))).map (op i)
variable {nd op}
theorem Zf2 {f i:Nat} {x:R}:ev nd op (f+1) i=some x↔ ∃ xs,(nd i).map (fun o=>o.bind (ev nd op f))=xs.map some/\x=op i xs:=by
 simp only[ev,Option.map_eq_some_iff];constructor
 ·rintro ⟨xs,h,rfl⟩;exact ⟨xs,Zl3.1 h,rfl⟩
 ·rintro ⟨xs,h,rfl⟩;exact ⟨xs,Zl3.2 h,rfl⟩
theorem ZeS {f i:Nat} {x:R} (h:ev nd op (f+1) i=some x) {o:Option Nat} (ho:o∈nd i): ∃ k y,o=some k/\ev nd op f k=some y:=by
 obtain ⟨b,c, -⟩:=Zf2.1 h;have d:o.bind (ev nd op f)∈b.map some:=by rw[←c];exact Kc.2 ⟨o,ho,rfl⟩
 obtain ⟨y, -,a⟩:=Kc.1 d;cases o with
 |none=>cases a
 |some k=>exact ⟨k,y,rfl,a.symm⟩
theorem Zje: ∀ {f i:Nat} {x:R},ev nd op f i=some x->ev nd op (f+1) i=some x
 |0,i,x,h=>Ω
 |f+1,i,x,h=>by obtain ⟨xs,h1,rfl⟩:=Zf2.1 h;refine Zf2.2 ⟨xs, ?_,rfl⟩;rw[←h1];refine Lu fun o ho=> ?_;obtain ⟨k,y,rfl,hy⟩:=ZeS h ho;show ev nd op (f+1) k=ev nd op f k;rw[hy,Zje hy]
theorem ZlD {f g i:Nat} {x:R} (h:ev nd op f i=some x) (hg:f<=g):ev nd op g i=some x:=by
 obtain ⟨d,rfl⟩: ∃ d,g=f+d:=⟨g-f,I⟩;induction d with
 |zero=>exact h
 |succ d a=>exact Zje (a I)
theorem Zud {f i:Nat} {x:R} (h:ev nd op (f+2) i=some x) (h':ev nd op (f+1) i=none): ∃ k,some k∈nd i/\(∃ y,ev nd op (f+1) k=some y)/\ev nd op f k=none:=by
 refine Classical.byContradiction fun d=> ?_;obtain ⟨a,e,rfl⟩:=Zf2.1 h;have g:ev nd op (f+1) i=some (op i a):=by
  refine Zf2.2 ⟨a, ?_,rfl⟩;rw[←e];refine Lu fun o b=> ?_;obtain ⟨k,y,rfl,j⟩:=ZeS h b;show ev nd op f k=ev nd op (f+1) k;cases c:ev nd op f k with
  |none=>exact (d ⟨k,b,⟨y,j⟩,c⟩).elim
  |some z=>rw[Zje c]
 rw[g] at h';cases h'
theorem Znz {n:Nat} (hnd: ∀ i,i<n-> ∀ k,some k∈nd i->k<n): ∀ {f i:Nat} {x:R},i<n->ev nd op (f+1) i=some x->ev nd op f i=none-> ∀ g,g<=f-> ∃ j y,j<n/\ev nd op (g+1) j=some y/\ev nd op g j=none
 |0,i,x,hi,h,h',g,hg=>by
  obtain rfl:g=0:=I
  exact ⟨i,x,hi,h,h'⟩
 |f+1,i,x,hi,h,h',g,hg=>by
  by_cases e:g=f+1
  ·subst e;exact ⟨i,x,hi,h,h'⟩
  ·obtain ⟨k,hk,⟨y,hy⟩,hk0⟩:=Zud h h';exact Znz hnd (hnd i hi k hk) hy hk0 g I
theorem ZtB {n:Nat} (hnd: ∀ i,i<n-> ∀ k,some k∈nd i->k<n) {f i:Nat} {x:R} (hi:i<n) (h:ev nd op f i=some x):ev nd op n i=some x:=by
 by_cases s:f<=n
 ·exact ZlD h s
 ·have l: ∀ d,ev nd op (n+d) i=some x->ev nd op n i=some x:=by
   intro d;induction d with
   |zero=>exact id
   |succ d t=>
    intro o;cases j:ev nd op (n+d) i with
    |some y=>have:=Zje j;rw[show n+d+1=n+(d+1) by omega,o] at this;rw[←JJ this] at j;exact t j
    |none=>
     exfalso;have p:=Znz hnd (f:=n+d) hi o j;obtain ⟨c,a⟩: ∃ c:Nat->Nat, ∀ g,g<=n+d->c g<n/\(∃ y,ev nd op (g+1) (c g)=some y)/\ev nd op g (c g)=none:=
      ⟨fun g => if hg : g ≤ n + d then (p g hg).choose else 0, fun g hg => by
       simp only[dif_pos hg];obtain ⟨y,v,w,A⟩:=(p g hg).choose_spec;exact ⟨v,⟨y,w⟩,A⟩⟩
     have:=Zkv n (n+d+1) c (fun g hg=>(a g I).1) fun g k hg C e=>by
      obtain ⟨-,⟨y,B⟩,q⟩:=a g I;obtain ⟨-,⟨z,r⟩,m⟩:=a k I;rw[←e] at r m;rcases Nat.lt_trichotomy g k with b|b|b
      ·rw[ZlD B I] at m;cases m
      ·exact b
      ·rw[ZlD r I] at q;cases q
     omega
  exact l (f-n) (by rw[show n+(f-n)=f by omega];exact h)
inductive Dep (nd:Nat->List (Option Nat)):Nat->Nat->Prop
 |one {i k:Nat} (h:some k∈nd i):Dep nd i k
 |more {i j k:Nat} (h:some j∈nd i) (r:Dep nd j k):Dep nd i k
theorem Dep.snoc {i j k:Nat} (h:Dep nd i j) (hk:some k∈nd j):Dep nd i k:=by
 induction h with
 |one h=>exact .more h (.one hk)
 |more h _ a=>exact .more h (a hk)
theorem Dep.down {i k:Nat} (h:Dep nd i k): ∀ {f:Nat} {x:R},ev nd op f i=some x-> ∃ g y,g<f/\ev nd op g k=some y:=by
 induction h with
 |one h=>
  intro f x a;cases f with
  |zero=>cases a
  |succ f=>obtain ⟨c,y,e,b⟩:=ZeS a h;obtain rfl:=JJ e;exact ⟨f,y,I,b⟩
 |more h _ d=>
  intro f x a;cases f with
  |zero=>cases a
  |succ f=>obtain ⟨c,y,e,b⟩:=ZeS a h;obtain rfl:=JJ e;obtain ⟨g,z,l,j⟩:=d b;exact ⟨g,z,I,j⟩
theorem Dep.cycle {i:Nat} (h:Dep nd i i): ∀ f,ev nd op f i=none:=by
 intro f;induction f using Nat.strongRecOn with
 |_ f b=>
  cases c:ev nd op f i with
  |none=>rfl
  |some x=>obtain ⟨g,y,d,a⟩:=h.down (op:=op) c;rw[b g d] at a;cases a
structure Zjs (nd:Nat->List (Option Nat)) (op:Nat->List R->R) (n:Nat) (st:Nat->Nat) (res:Nat->R):Prop where
 two: ∀ j,j<n->st j=2->ev nd op n j=some (res j)
 three: ∀ j,j<n->st j=3->ev nd op n j=none
theorem ZpA {n:Nat} (hnd: ∀ i,i<n-> ∀ k,some k∈nd i->k<n) {i:Nat} (hi:i<n):ev nd op n i=ev nd op (n+1) i:=by
 cases h:ev nd op (n+1) i with
 |some x=>exact ZtB hnd hi h
 |none=>
  cases a:ev nd op n i with
  |none=>rfl
  |some x=>rw[Zje a] at h;cases h
theorem Zp5 {n:Nat} (hnd: ∀ i,i<n-> ∀ k,some k∈nd i->k<n) {i:Nat} (hi:i<n) {o:Option Nat} (ho:o∈nd i) (h: ∀ k,o=some k->ev nd op n k=none):ev nd op n i=none:=by
 rw[ZpA hnd hi];cases b:ev nd op (n+1) i with
 |none=>rfl
 |some x=>obtain ⟨k,y,e,a⟩:=ZeS b ho;rw[h k e] at a;cases a
theorem Zsv {n:Nat} (hnd: ∀ i,i<n-> ∀ k,some k∈nd i->k<n) {i:Nat} (hi:i<n) {xs:List R} (h:(nd i).map (fun o=>o.bind (ev nd op n))=xs.map some):ev nd op n i=some (op i xs):=by
 rw[ZpA hnd hi];exact Zf2.2 ⟨xs,h,rfl⟩
end
section
variable {R:Type} {nd:Nat->List (Option Nat)} {op:Nat->List R->R} {n:Nat}
def Stk (nd:Nat->List (Option Nat)) (n:Nat) (st:Nat->Nat) (i:Nat):Prop:= ∀ j,j<n->st j=1->Dep nd j i
structure FndE (nd:Nat->List (Option Nat)) (op:Nat->List R->R) (n:Nat) (st:Nat->Nat) (res:Nat->R) (st':Nat->Nat) (res':Nat->R):Prop where
 inv:Zjs nd op n st' res'
 keep: ∀ j,j<n->st j≠0->st' j=st j/\(st j=2->res' j=res j)
 news: ∀ j,j<n->st j=0->st' j=0\/st' j=2\/st' j=3
theorem FndE.refl {st:Nat->Nat} {res:Nat->R} (h:Zjs nd op n st res):FndE nd op n st res st res:=⟨h,fun _ _ _=>⟨rfl,fun _=>rfl⟩,fun _ _ h=> .inl h⟩
theorem FndE.trans {st st' st'':Nat->Nat} {res res' res'':Nat->R} (h:FndE nd op n st res st' res') (h':FndE nd op n st' res' st'' res''):FndE nd op n st res st'' res'':=by
 refine ⟨h'.inv,fun j a b=> ?_,fun j a f=> ?_⟩
 ·obtain ⟨c,g⟩:=h.keep j a b;obtain ⟨i,k⟩:=h'.keep j a (by rw[c];exact b);exact ⟨i.trans c,fun e=>(k (by rw[c];exact e)).trans (g e)⟩
 ·rcases h.news j a f with d|d|d
  ·exact h'.news j a d
  ·have:=(h'.keep j a I).1;omega
  ·have:=(h'.keep j a I).1;omega
def zer (st:Nat->Nat):Nat->Nat
 |0=>0
 |n+1=>zer st n+if st n=0 then 1 else 0
theorem ZnC {st st':Nat->Nat}: ∀ {n:Nat},(∀ j,j<n->st j≠0->st' j≠0)->zer st' n<=zer st n
 |0,_=>JM _
 |n+1,h=>by
  have ih:=ZnC (n:=n) fun j hj=>h j I;have h1:=h n I;simp only[zer];by_cases e:st n=0
  ·rw[if_pos e];split<;>omega
  ·rw[if_neg e,if_neg (h1 e)];omega
theorem Zrk {st st':Nat->Nat} {i:Nat}: ∀ {n:Nat},i<n->st i=0->st' i≠0->(∀ j,j<n->st j≠0->st' j≠0)->zer st' n<zer st n
 |0,hi,_,_,_=>I
 |n+1,hi,h0,h1,h=>by
  simp only[zer];by_cases e:i=n
  ·subst e;rw[if_pos h0,if_neg h1];have:=ZnC (n:=i) fun j hj=>h j I;omega
  ·have:=Zrk (n:=n) I h0 h1 fun j hj=>h j I;have h2:=h n I;by_cases e2:st n=0
   ·rw[if_pos e2];split<;>omega
   ·rw[if_neg e2,if_neg (h2 e2)];omega
theorem FndE.zer {st st':Nat->Nat} {res res':Nat->R} (h:FndE nd op n st res st' res'):zer st' n<=zer st n:=
 ZnC fun j b a=>by rw[(h.keep j b a).1];exact a
def ZQ (st:Nat->Nat) (i v:Nat):Nat->Nat:=fun j=>if j=i then v else st j
theorem Zs5 {st:Nat->Nat} {i v:Nat} (hi:i<n) (h0:st i=0) (hv:v≠0):zer (ZQ st i v) n<zer st n:=
 Zrk hi h0 (by unfold ZQ;rw[if_pos rfl];exact hv) fun j b a=>by
  unfold ZQ;split
  ·exact hv
  ·exact a
theorem Zs0 {st:Nat->Nat} {res:Nat->R} {i:Nat} (h:Zjs nd op n st res):Zjs nd op n (ZQ st i 1) res:=by
 refine ⟨fun j a b=> ?_,fun j a c=> ?_⟩
 ·unfold ZQ at b;split at b
  ·omega
  ·exact h.two j a b
 ·unfold ZQ at c;split at c
  ·omega
  ·exact h.three j a c
theorem Znc {st:Nat->Nat} {i k:Nat} (h:Stk nd n st i) (hk:some k∈nd i):Stk nd n (ZQ st i 1) k:=fun j b a=>by
 unfold ZQ at a;split at a
 ·rename_i e;subst e;exact .one hk
 ·exact (h j b a).snoc hk
theorem Zuf {st:Nat->Nat} {i k f:Nat} (h:Stk nd n (ZQ st i 1) k) (hk:some k∈nd i) (hkn:k<n) (h1:ZQ st i 1 k=1):ev nd op f i=none:=by
 have a:ev nd op f k=none:=(h k hkn h1).cycle f;cases f with
 |zero=>rfl
 |succ f=>
  cases b:ev nd op (f+1) i with
  |none=>rfl
  |some x=>obtain ⟨d,y,e,c⟩:=ZeS b hk;obtain rfl:=JJ e;rw[Zje c] at a;cases a
theorem FndE.fin {st st':Nat->Nat} {res res':Nat->R} {i:Nat} (hi:i<n) (h0:st i=0) (h:FndE nd op n (ZQ st i 1) res st' res') {v:Nat} {x:R} (hv:(v=2/\ev nd op n i=some x)\/(v=3/\ev nd op n i=none)):
  FndE nd op n st res (ZQ st' i v) (fun j=>if j=i then x else res' j):=by
 refine ⟨⟨fun j a b=> ?_,fun j a d=> ?_⟩,fun j a c=> ?_,fun j a l=> ?_⟩
 ·unfold ZQ at b;by_cases e:j=i
  ·subst e;rw[if_pos rfl] at b ⊢;rcases hv with hv|hv
   ·exact hv.2
   ·omega
  ·rw[if_neg e] at b ⊢;exact h.inv.two j a b
 ·unfold ZQ at d;by_cases e:j=i
  ·subst e;rw[if_pos rfl] at d;rcases hv with hv|hv
   ·omega
   ·exact hv.2
  ·rw[if_neg e] at d;exact h.inv.three j a d
 ·have e:j≠i:=fun e=>c (by rw[e];exact h0);have f:ZQ st i 1 j=st j:=DI
  obtain ⟨g,k⟩:=h.keep j a (by rw[f];exact c);rw[f] at g k;refine ⟨by unfold ZQ;rw[if_neg e];exact g,fun b=>by rw[if_neg e];exact k b⟩
 ·by_cases e:j=i
  ·subst e;unfold ZQ;rw[if_pos rfl];rcases hv with hv|hv
   ·exact .inr (.inl hv.1)
   ·exact .inr (.inr hv.1)
  ·have f:ZQ st i 1 j=st j:=DI;have:=h.news j a (by rw[f];exact l);unfold ZQ;rw[if_neg e];exact this
end
structure Rs where
 m:Mat
 fine:Bool
variable {l xs:List Rs} {op:Nat->List Rs->Rs} {r:Rs} {res res':Nat->Rs}
def Rs.isSome (r:Rs):Bool:=r.fine
def rsZ:Mat:={rows:=0,cols:=0,cells:=[]}
def rs0:Rs:=⟨rsZ,false⟩
def rsS (m:Mat):Rs:=⟨m,true⟩
def Zke:Option Mat->Rs
 |some m=>rsS m
 |none=>rs0
def Za5 (d:Dfn):List ByteArray:=if d.op=0 then [] else if d.op=1\/d.op=2 then [d.a,d.b] else [d.a]
def Zdl (l:List Dfn) (s:ByteArray):Option Nat:=if 0<=Zn l s then some (Zn l s).toNat else none
def ndL (l:List Dfn) (i:Nat):List (Option Nat):=match l[i]? with
 |some d=>(Za5 d).map (Zdl l)
 |none=>[]
def opD (f:Int->Mat->Mat->Option Mat) (d:Dfn) (xs:List Rs):Rs:=
 if d.op=0 then rsS d.value else if xs.all Rs.isSome then Zke (f d.op (xs.getD 0 rs0).m (xs.getD 1 rs0).m) else rs0
def opL (f:Int->Mat->Mat->Option Mat) (l:List Dfn) (i:Nat) (xs:List Rs):Rs:=match l[i]? with
 |some d=>opD f d xs
 |none=>rs0
def evL (f:Int->Mat->Mat->Option Mat) (l:List Dfn) (i:Nat):Option Rs:=ev (ndL l) (opL f l) l.length i
def Ztv (f:Int->Mat->Mat->Option Mat) (l:List Dfn) (i:Nat):Rs:=(evL f l i).getD rs0
theorem ZjU {l:List Dfn} {s:ByteArray} (h:Zdl l s=some k):k<l.length:=by
 unfold Zdl at h;split at h
 ·have:=Zc5 (fun d:Dfn=>d.name.toList==s.toList) l;have a:=JJ h;have b:Zn l s=firstIdx (fun d:Dfn=>d.name.toList==s.toList) l:=rfl;omega
 ·cases h
theorem Zut {l:List Dfn}: ∀ i,i<l.length-> ∀ k,some k∈ndL l i->k<l.length:=fun i _ k h=>by
 unfold ndL at h;split at h
 ·obtain ⟨s, -,a⟩:=Kc.1 h;exact ZjU a
 ·cases h
theorem Zek {l:List Dfn} (h:Zaa l=true):(∀ d∈l,Z9 d=true)/\l.length<=12:=by
 have c: ∀ k,k<l.length->ZaY l k=true:=fun k a=>by
  cases e:ZaY l k with
  |true=>rfl
  |false=>rw[Zgo a e] at h;cases h
 refine ⟨fun d f=> ?_,by rw[Ziv c] at h;exact of_decide_eq_true h⟩;obtain ⟨k,a,rfl⟩:=List.getElem_of_mem f;have b:=c k a;unfold ZaY at b;rw[JR a] at b;simp only[Bool.and_eq_true] at b;exact b.1
def rsM (r:Rs):Mat:=r.m
def ZcX (r:Rs) (s:Value):List Value:=[.int .i64 (rsM r).rows, .int .i64 (rsM r).cols,s, .bool r.isSome]
def Zdd:List Rs->List Value->List Value
 |r::l,s::ss=>ZcX r s++Zdd l ss
 |_,_=>[]
theorem Zni: ∀ {l:List Rs} {ss:List Value},ss.length=l.length->(Zdd l ss).length=l.length*4
 |[],[],_=>rfl
 |[],_::_,h=>ν
 |_::_,[],h=>ν
 |d::l,s::ss,h=>by simp only[Zdd,JY,Zni (l:=l) (ss:=ss) Ai,ZcX,Kw,List.length_nil];omega
theorem Zel: ∀ {l:List Rs} {ss:List Value} {k j:Nat} {r:Rs} {s:Value},l[k]? =some r->ss[k]? =some s->j<4->(Zdd l ss)[k*4+j]? =(ZcX r s)[j]?
 |[],_,k,j,d,s,h,_,_=>ν
 |_::_,[],k,j,d,s,_,h,_=>ν
 |d'::l,s'::ss,0,j,d,s,h,h',hj=>by simp at h h';subst h;subst h';simp only[Zdd];rw[Lc (by simp[ZcX];omega)];simp
 |d'::l,s'::ss,k+1,j,d,s,h,h',hj=>by simp only[Zdd];rw[KS (by simp[ZcX];omega),show (k+1)*4+j-(ZcX d' s').length=k*4+j from by simp[ZcX];omega];exact Zel Ai (by simpa using h') hj
theorem ZjS: ∀ {l:List Rs} {ss:List Value} {k:Nat} {r:Rs} {s:Value},ss.length=l.length->k<l.length->
  ((((Zdd l ss).set (k*4) (.int .i64 (rsM r).rows)).set (k*4+1) (.int .i64 (rsM r).cols)).set (k*4+2) s).set (k*4+3) (.bool r.isSome)=Zdd (l.set k r) (ss.set k s)
 |[],_,k,r,s,_,hk=>by simp at hk
 |_::_,[],k,r,s,h,_=>ν
 |d'::l,s'::ss,0,r,s,h,_=>by simp[Zdd,ZcX]
 |d'::l,s'::ss,k+1,r,s,h,hk=>by
  have ih:=ZjS (l:=l) (ss:=ss) (k:=k) (r:=r) (s:=s) Ai (by simpa using hk);have e0:(k+1)*4=k*4+4:=I
  simp only[Zdd,ZcX,KC,List.cons_append,List.nil_append];rw[show (k+1)*4=k*4+1+1+1+1 by omega];simp only[show k*4+1+1+1+1+1=(k*4+1)+1+1+1+1 by omega,show k*4+1+1+1+1+2=(k*4+2)+1+1+1+1 by omega,show k*4+1+1+1+1+3=(k*4+3)+1+1+1+1 by omega,KC];rw[ih]
def ZbO (l:List Rs):List (List Int):=l.map fun r=>(rsM r).cells
@[simp] theorem Zwp (l:List Rs):(ZbO l).length=l.length:=by simp[ZbO]
theorem Zcs (h:l[k]? =some r):(ZbO l)[k]? =some (rsM r).cells:=by simp[ZbO,h]
def ROk (r:Rs):Prop:=I64 (rsM r).rows/\I64 (rsM r).cols
structure RdR (w:World) (S:Nat->Prop) (a:Option Addr) (n cap:Nat) (l:List Rs):Prop where
 row: ∃ ss:List Value,ss.length=l.length/\Row w S 4 a n cap (Zdd l ss)/\RdCells w S ss (ZbO l)
 len:l.length=n
 ok: ∀ r∈l,ROk r
theorem RdR.keep (h:RdR w S a n cap l) (hk:Keep T w w') (hST: ∀ b,b<w.heap.size->S b->T b):RdR w' S a n cap l:=by
 exact Jd
theorem RdR.grow (h:RdR w S a n cap l) (hk:Grow w w'):RdR w' S a n cap l:=h.keep hk fun _ _ _=>trivial
structure RAt (w:World) (b o:Nat) (r:Rs) (s:Value):Prop where
 c0:w.cell? ⟨b,o,none⟩=some (.int .i64 (rsM r).rows)
 c1:w.cell? ⟨b,o+1,none⟩=some (.int .i64 (rsM r).cols)
 c2:w.cell? ⟨b,o+2,none⟩=some s
 c3:w.cell? ⟨b,o+3,none⟩=some (.bool r.isSome)
theorem RAt.keep (h:RAt w b o r s) (hk:Keep S w w') (hS:S b):RAt w' b o r s:=
 ⟨hk.cell hS h.c0,hk.cell hS h.c1,hk.cell hS h.c2,hk.cell hS h.c3⟩
theorem RAt.grow (h:RAt w b o r s) (hk:Grow w w'):RAt w' b o r s:=h.keep hk trivial
theorem RdR.at (h:RdR w S a n cap l) (hk:k<n):
  ∃ b off r a1 c1,a=some ⟨b,off,none⟩/\l[k]? =some r/\S b/\b<w.heap.size/\RAt w b (off+k*4) r (.slice a1 (rsM r).cells.length c1)/\RdI w S a1 (rsM r).cells.length c1 (rsM r).cells/\ROk r:=by
 obtain ⟨⟨s,t,g,i⟩,x,m⟩:=h;have d:k<l.length:=I
 have hk':l[k]? =some l[k]:=JR d;obtain ⟨a1,c1,h3,o⟩:=i _ _ (Zcs hk');obtain ⟨b,off,p,q,hc⟩:=g.addr (by
  intro e;have:=Zel (j:=0) hk' h3 I;rw[e] at this;simp[ZcX] at this)
 have c: ∀ j v,j<4->(ZcX l[k] (.slice a1 (rsM l[k]).cells.length c1))[j]? =some v->w.cell? ⟨b,off+k*4+j,none⟩=some v:=fun j v hj hv=>Ew
 have f:=c 0 _ I rfl;exact ⟨b,off,l[k],a1,c1,p,hk',q,World.block_lt_of_cell? w _ f,⟨f,c 1 _ I rfl,c 2 _ I rfl,c 3 _ I rfl⟩,o,m _ (List.getElem_mem d)⟩
def two (st:Nat->Nat):Nat->Nat
 |0=>0
 |n+1=>two st n+if st n=2 then 1 else 0
theorem Zjo {st:Nat->Nat} {i v:Nat}: ∀ {n:Nat},two (ZQ st i v) n+(if i<n/\st i=2 then 1 else 0)=two st n+if i<n/\v=2 then 1 else 0
 |0=>by simp[two]
 |n+1=>by
  have ih:=Zjo (st:=st) (i:=i) (v:=v) (n:=n);simp only[two];by_cases e:n=i
  ·subst e;have e1:ZQ st n v n=v:=(by unfold ZQ;rw[if_pos rfl]);rw[e1];simp at ih ⊢;omega
  ·exact Iy
theorem Zjt {st:Nat->Nat} {i v:Nat} (hv:v≠0): ∀ {n:Nat},zer (ZQ st i v) n+(if i<n/\st i=0 then 1 else 0)=zer st n
 |0=>by simp[zer]
 |n+1=>by
  have ih:=Zjt (st:=st) (i:=i) hv (n:=n);simp only[zer];by_cases e:n=i
  ·subst e;have e1:ZQ st n v n=v:=(by unfold ZQ;rw[if_pos rfl]);rw[e1,if_neg hv];simp at ih ⊢;omega
  ·exact Iy
theorem FndE.one (h:FndE nd op n st res st' res') (hj:j<n) (h1:st' j=1):st j=1:=by
 by_cases a:st j=0
 ·have:=h.news j hj a;omega
 ·have:=(h.keep j hj a).1;omega
theorem FndE.stk (h:FndE nd op n st res st' res') (hs:Stk nd n st k):Stk nd n st' k:=fun j a b=>hs j a (h.one a b)
def PR (nd:Nat->List (Option Nat)) (op:Nat->List Rs->Rs) (n i:Nat) (k:Nat) (xs:List Rs) (kn:Bool) (st:Nat->Nat) (res:Nat->Rs):Prop:=
 xs.length<=k/\(∀ x∈xs,ROk x/\(rsM x).cells.length<=1048576)/\(kn=false->ev nd op n i=none)/\
  (kn=true->xs.length=k/\ ∀ j,j<k-> ∃ p,(nd i)[j]? =some (some p)/\p<n/\st p=2/\xs[j]? =some (res p))
theorem PR.start (nd:Nat->List (Option Nat)) (op:Nat->List Rs->Rs) (n i:Nat) (st:Nat->Nat) (res:Nat->Rs):PR nd op n i 0 [] true st res:=
 ⟨JM _,(fun x hx=>AO),(fun h=>Ω),fun _=>⟨rfl,fun j a=>I⟩⟩
theorem PR.on (h:PR nd op n i k xs kn st res) (hF:FndE nd op n st res st' res'):PR nd op n i k xs kn st' res':=by
 obtain ⟨c,d,f,a⟩:=h;refine ⟨c,d,f,fun e=>⟨(a e).1,fun j g=> ?_⟩⟩;obtain ⟨p,l,b,m,o⟩:=(a e).2 j g;obtain ⟨r,q⟩:=hF.keep p b I;exact ⟨p,l,b,I,by rw[q m];exact o⟩
theorem PR.miss (h:PR nd op n i k xs kn st res) (hn:ev nd op n i=none):PR nd op n i (k+1) xs false st res:=
 ⟨Fh,h.2.1,fun _=>hn,fun e=>Ca⟩
theorem PR.add (h:PR nd op n i k xs kn st res) (hp:(nd i)[k]? =some (some p)) (hpn:p<n) (h2:st p=2) (hok:ROk (res p)/\(rsM (res p)).cells.length<=1048576):PR nd op n i (k+1) (xs++[res p]) kn st res:=by
 obtain ⟨r,c,d,a⟩:=h;refine ⟨Ψ,fun x b=> ?_,d,fun e=>⟨by simp[(a e).1],fun j s=> ?_⟩⟩
 ·rcases Kg.1 b with b|b
  ·exact c x b
  ·rw[Kv.1 b];exact hok
 ·by_cases f:j=k
  ·subst f;exact ⟨p,hp,hpn,h2,by rw[KS (by rw[(a e).1];exact JM _),(a e).1];simp⟩
  ·obtain ⟨g,l,m,o,q⟩:=(a e).2 j I;exact ⟨g,l,m,o,by rw[Lc (by rw[(a e).1];omega)];exact q⟩
theorem PR.no (h:PR nd op n i k xs false st res):ev nd op n i=none:=h.2.2.1 rfl
theorem PR.yes (h:PR nd op n i k xs true st res) (hk:k=(nd i).length) (hI:Zjs nd op n st res) (hi:i<n) (hnd: ∀ i,i<n-> ∀ k,some k∈nd i->k<n):ev nd op n i=some (op i xs):=by
 obtain ⟨l,m,o,a⟩:=h;obtain ⟨q,b⟩:=a rfl;refine Zsv hnd hi (List.ext_getElem? fun j=> ?_);rw[KG,KG];by_cases c:j<k
 ·obtain ⟨p,d,e,f,g⟩:=b j c;rw[d,g];show some ((some p).bind (ev nd op n))=some (some (res p));rw[Option.bind_some,hI.two p e f]
 ·rw[K3 I,K3 I];rfl
theorem Zts (hi:i<n) (hp:some p∈nd i) (hpn:p<n) (hnd: ∀ i,i<n-> ∀ k,some k∈nd i->k<n) (hF:FndE nd op n (ZQ st i 1) res st' res') (hs:Stk nd n (ZQ st i 1) p) (h0:st' p≠0) (h2:st' p≠2) (h3:st' p<=3):ev nd op n i=none:=by
 by_cases a:st' p=1
 ·exact Zuf hs hp hpn (hF.one hpn a)
 ·have h3:st' p=3:=I
  exact Zp5 hnd hi hp fun k b=>by rw[←JJ b];exact hF.inv.three p hpn h3
structure SepR (w:World) (F:Nat->Prop) (a:Option Addr) (n c:Nat) (l:List Rs):Prop where
 own: ∃ ss,Own w 41 4 a n c (Zdd l ss)/\Inner w F (blk a) ss (ZbO l)
 len:l.length=n
 ok: ∀ r∈l,ROk r
 low: ∀ g,blk a=some g->F g
theorem SepR.rdR (h:SepR w F a n c l) (hS: ∀ b,F b->S b):RdR w S a n c l:=by
 obtain ⟨⟨e,f,d⟩,g,i,j⟩:=h;exact ⟨⟨e,by have:=d.len;simpa using this,f.row fun q k=>hS q (j q k),d.rdCells fun b m _=>hS b m⟩,g,i⟩
theorem SepR.keep (h:SepR w F a n c l) (hk:Keep T w w') (hT: ∀ b,b<w.heap.size->F b->T b):SepR w' F a n c l:=by
 exact Iq
theorem SepR.grow (h:SepR w F a n c l) (hk:Grow w w'):SepR w' F a n c l:=h.keep hk fun _ _ _=>trivial
theorem SepR.weak {G:Nat->Prop} (h:SepR w F a n c l) (hF: ∀ b,b<w.heap.size->F b->G b):SepR w G a n c l:=by
 obtain ⟨⟨j,f,k⟩,m,o,p⟩:=h;exact ⟨⟨j,f,k.weak fun b q d e=>⟨hF b q d,e⟩⟩,m,o,fun g i=>hF g (f.lt i) (p g i)⟩
def Zg2 (l d:Int) (v:List Int):List (List Int):=(JN d.toNat).map fun (k:Nat)=>v++[l+(k:Int)]
def ZgR (H:Nat->Int):Nat->List (List Int)
 |0=>[[]]
 |n+1=>(ZgR H n).flatMap (Zg2 (-H n) (2*H n+1))
theorem Zn9 {α β:Type} {l:List α} {f:α->List β} (h: ∀ x∈l,(f x).length=c):(l.flatMap f).length=l.length*c:=by
 induction l with
 |nil=>simp
 |cons x r a=>rw[List.flatMap_cons,JY,a fun y b=>h y (List.mem_cons_of_mem _ b),h x (List.mem_cons_self ..),Kw,Ki,Nat.one_mul,Nat.add_comm]
theorem Zta {D:Nat->Int} (h: ∀ i,i<n->0<D i): ∀ {i:Nat},i<=n->pdN D i<=pdN D n:=by
 induction n with
 |zero=>
  intro i a;obtain rfl:i=0:=I
  exact JE
 |succ n b=>
  intro i a;by_cases e:i=n+1
  ·subst e;exact JE
  ·refine K6 (b (fun i a=>h i I) I) ?_;have:=h n I;exact Nat.le_mul_of_pos_right _ I
theorem SepII.one {w1:World} {g h:Nat} (hg:g=w.heap.size) (hw:w1=w.alloc (.cells #[] 3)) (hh:h=w.heap.size+1):
  SepII (w1.alloc (.cells #[.slice (some ⟨g,0,none⟩) 0 0] 35)) (New w (w1.alloc (.cells #[.slice (some ⟨g,0,none⟩) 0 0] 35))) (some ⟨h,0,none⟩) 1 1 [[]]:=by
 subst hg hw hh;have d:(w.alloc (.cells #[] 3)).heap.size=w.heap.size+1:=Θ
 have e:Own (w.alloc (.cells #[] 3)) 3 1 (some ⟨w.heap.size,0,none⟩) 0 0 (ints []):=Own.fresh Γ rfl;have f:Own ((w.alloc (.cells #[] 3)).alloc (.cells #[.slice (some ⟨w.heap.size,0,none⟩) 0 0] 35)) 35 1 (some ⟨w.heap.size+1,0,none⟩) 1 1 [.slice (some ⟨w.heap.size,0,none⟩) 0 0]:=Own.freshAt (by rw[d]) Γ rfl;refine ⟨⟨_,f, ?_⟩,fun q a=> ?_⟩
 ·have i:=Inner.snoc (w:=(w.alloc (.cells #[] 3)).alloc (.cells #[.slice (some ⟨w.heap.size,0,none⟩) 0 0] 35)) (F:=New w ((w.alloc (.cells #[] 3)).alloc (.cells #[.slice (some ⟨w.heap.size,0,none⟩) 0 0] 35))) (g:=some (w.heap.size+1)) Inner.nilw (b:=some ⟨w.heap.size,0,none⟩) (c:=0) (xs:=[]) (e.grow ((JH _).alloc _ _)) (fun x hx=>AO)
   (fun q a=>by simp at a;subst a;exact ⟨⟨JM _,Ψ⟩,Θ⟩) (fun q _ v j=>by cases j)
  exact i
 ·simp at a;subst a;exact ⟨I,Θ⟩
theorem RdII.nilw (w:World):RdII w S none 0 0 []:=⟨⟨[],(RdI.nilw (S:=S) w).row,fun i a h=>ν⟩,rfl⟩
theorem Zor (l d:Int) (v:List Int):(Zg2 l d v).length=d.toNat:=by unfold Zg2;simp
theorem Zkh (H:Nat->Int): ∀ n,(ZgR H n).length=pdN (fun i=>2*H i+1) n
 |0=>rfl
 |n+1=>by simp only[ZgR,pdN];rw[Zn9 (c:=(2*H n+1).toNat) (fun x _=>Zor _ _ x),Zkh H n]
theorem Zkq {H:Nat->Int} {m:Nat} (hH: ∀ i,i<m->0<=H i/\H i<=20000): ∀ {n:Nat},n<=m-> ∀ {v:List Int},v∈ZgR H n->v.length=n/\ ∀ x∈v, -20000<=x/\x<=20000
 |0,_,v,h=>by simp only[ZgR,Kv] at h;subst h;exact ⟨rfl,fun x hx=>AO⟩
 |n+1,hm,v,h=>by
  simp only[ZgR,Zg2,List.mem_flatMap,Kc,List.mem_range] at h;obtain ⟨u,hu,k,hk,rfl⟩:=h;obtain ⟨h1,h2⟩:=Zkq hH I hu;refine ⟨AU,fun x hx=> ?_⟩;rcases Kg.1 hx with hx|hx
  ·exact h2 x hx
  ·rw[Kv.1 hx];have:=hH n I;omega
theorem ZtP {l:List (List Int)} {d:Int} (hj:j<l.length) (hk:(k:Int)<=d):((l.take j).flatMap (Zg2 lo d)).length+k<=l.length*d.toNat:=by
 rw[Zn9 (c:=d.toNat) fun x _=>Zor _ _ x,List.length_take,Nat.min_eq_left I];have:(j+1)*d.toNat<=l.length*d.toNat:=K9 _ hj;rw[Ki] at this;omega
theorem ZqH {l:List (List Int)} {d:Int} {v:List Int} (hv:l[j]? =some v):(l.take (j+1)).flatMap (Zg2 lo d)=(l.take j).flatMap (Zg2 lo d)++Zg2 lo d v:=by
 rw[ZH hv,List.flatMap_append];simp
theorem Zr5 {v:List Int}:(JN (k+1)).map (fun (k:Nat)=>v++[lo+(k:Int)])=(JN k).map (fun (k:Nat)=>v++[lo+(k:Int)])++[v++[lo+(k:Int)]]:=by
 rw[List.range_succ,List.map_append];rfl
theorem Zuc (la ha:Option Addr) (n lc hc:Nat) (H:Nat->Int) (w:World) (hl:RdI w S la n lc ((JN n).map fun i=> -H i)) (hh:RdI w T ha n hc ((JN n).map H)) (hn:n<=24) (hH: ∀ i,i<n->0<=H i/\H i<=20000):
  Calls Tryz.prog 113 #[.slice la n lc, .slice ha n hc] w fun e w'=> ∃ a m c ok rows,e= .returned (.tuple #[.slice a m c, .bool ok])/\RdII w' (fun _=>True) a m c rows/\m<=4000/\(∀ v∈rows,v.length=n/\ ∀ x∈v, -20000<=x/\x<=20000)/\Grow w w':=by
 obtain ⟨D,M⟩: ∃ D:Nat->Int,D=fun i=>2*H i+1:=⟨_,rfl⟩;have N: ∀ i,D i=2*H i+1:=fun i=>by rw[M]
 have hD: ∀ i,i<n->0<D i/\D i<=40001:=fun i hi=>by have:=hH i hi;have:=N i;omega
 have C: ∀ i,i<n->0<D i:=fun i hi=>(hD i hi).1;have af:=hid M;have O:=hid N;have HH:=hid hH;have E:=hid C;clear C M N hH;go_enter Tryz.func113,Tryz.ntmps113;go_wp2;go_loopw [6,16] (fun q i wr=>Qt w wr/\ ∃ k:Nat,k<=n/\i= .int .i64 k/\q= .int .i64 (pdN D k:Nat)/\pdN D k<=4000) (fun _ i _=>n-(intOf i).toNat);case atStart=>exact ⟨Qt.refl _,0,JI _,rfl,rfl,by simp[pdN]⟩
 case round=>
  obtain ⟨F,k,hk,rfl,rfl,h1⟩:=hrel;by_cases f:k<n
  ·obtain ⟨b1,o1,x,rfl,A,ag,_,ax,ah⟩:=(hl.grow F.grow).at f;obtain ⟨b2,o2,y,rfl,R,ai,_,ay,aj⟩:=(hh.grow F.grow).at f;obtain rfl: -H k=x:=(by rw[ZeM f] at A;exact JJ A);obtain rfl:H k=y:=(by rw[ZeM f] at R;exact JJ R);clear A R;obtain ⟨az,a0⟩:=hD k f;have V:=O.out k;have ak:=HH.out k f;have h3:((pdN D (k+1):Nat):Int)=(pdN D k:Nat)*D k:=(by simp only[pdN];rw[Int.natCast_mul,N7 I]);obtain ⟨h,al⟩: ∃ h,H k=h:=⟨_,rfl⟩;obtain ⟨P,W⟩: ∃ P:Nat,pdN D k=P:=⟨_,rfl⟩;obtain ⟨P',p⟩: ∃ P:Nat,pdN D (k+1)=P:=⟨_,rfl⟩;rw[al] at V ak ag ai ah aj;rw[V] at h3;rw[W] at h1 h3;rw[p] at h3;rw[W];have be:P'<=160004000:=(by have h4:(P:Int)*(2*h+1)<=4000*40001:=Int.mul_le_mul I I I I;omega);have bi:h+h+1=2*h+1:=I;have hw:wrap64 ((P:Int)*(2*h+1))=P':=(by rw[←h3];unfold wrap64;omega);have G:=hid p;have u1:wrap64 (h- -h)=h- -h:=θ;have u2:wrap64 (h- -h+1)=h- -h+1:=θ;clear h3 W p al O HH E V;go_wp2
   go_quiet (fail)
   rw[hw];by_cases bf:4000<P'
   ·go_wp2
    go_ret2
    exact ⟨none,0,0,false,[],rfl,RdII.nilw _,I,(fun v X=>by cases X),by first |exact F.grow|exact (F.drewN _).grow⟩
   ·go_wp2;go_roundw;case rel=>exact ⟨F.drewN _,k+1,I,Δ,by rw[G.out],by rw[G.out];omega⟩
    case measure=>exact FN
  ·obtain rfl:n=k:=I;have HP:=hid (fun i (hi:i<=n)=>K6 (Zta E.out hi) h1);clear h1;go_wp2;obtain ⟨wx,a5⟩:=eX wr;go_loopw [8,38] (fun o i wr=> ∃ (k m c:Nat) (a:Option Addr),k<=n/\i= .int .i64 k/\o= .slice a m c/\Grow w wr/\SepII wr (New w wr) a m c (ZgR H k)) (fun _ i _=>n-(intOf i).toNat);case atStart=>have hs:=F.grow.size;refine ⟨0,1,1,_,JI _,rfl,rfl,(F.grow.alloc _ _).alloc _ _,(SepII.one rfl rfl Θ).weak fun b _ h=>⟨Fh,h.2⟩⟩
   case round=>
    clear a5 F;obtain ⟨k,m,c,a,hk,rfl,rfl,hG,hS⟩:=hrel;by_cases f:k<n
    ·obtain ⟨Y,rfl⟩:=eX wr;have Z:=hS.len;have am:m=pdN D k:=(by rw[←Z,Zkh,af.out]);have r:=HP.out (k+1) f;have a6:=HP.out k hk;simp only[pdN] at r;rw[O.out] at r;rw[←am] at r a6;have ak:=HH.out k f;have aa:=hid Z;have a7:=hid r;obtain ⟨az,a0⟩:=hD k f;clear Z am r;go_wp2;go_loopw [10,44] (fun o i wr=> ∃ (j m1 c1:Nat) (a1:Option Addr),j<=m/\i= .int .i64 j/\o= .slice a1 m1 c1/\Grow Y wr/\SepII wr (New Y wr) a1 m1 c1 (((ZgR H k).take j).flatMap (Zg2 (-H k) (2*H k+1)))) (fun _ i _=>m-(intOf i).toNat);case atStart=>exact ⟨0,0,0,_,JI _,rfl,rfl,(JH Y).alloc _ _,SepII.fresh0 Y⟩
     case round=>
      obtain ⟨j,m1,c1,a1,hj,rfl,rfl,s,ab⟩:=hrel;by_cases J:j<m
      ·obtain ⟨bv,ov,v,av,cv,rfl,X,_,bg,an,ao⟩:=(hS.rdII (S:=fun _=>True) fun _ _=>trivial).at J;have bj:=s.cell an;have bk:=s.size;have bl:bv<wr.heap.size:=I;have ap:v.length=k:=(Zkq HH.out (Nat.le_of_lt f) (List.mem_of_getElem? X)).1;obtain ⟨b1,o1,x,rfl,A,ag,_,ax,ah⟩:=(hl.grow (hG.trans s)).at f;obtain rfl: -H k=x:=(by rw[ZeM f] at A;exact JJ A);have Hv:=hid X;have a8:=hid ap;clear A X ap;obtain ⟨wm,rfl⟩:=eX wr;go_wp2;go_loopw [10,13] (fun o i wr=> ∃ (q m2 c2:Nat) (a2:Option Addr),(q:Int)<=2*H k+1/\i= .int .i64 (-H k+(q:Int))/\o= .slice a2 m2 c2/\Grow Y wr/\SepII wr (New Y wr) a2 m2 c2 (((ZgR H k).take j).flatMap (Zg2 (-H k) (2*H k+1))++(JN q).map fun (t:Nat)=>v++[-H k+(t:Int)])) (fun _ i _=>(H k+1-intOf i).toNat);case atStart=>exact ⟨0,m1,c1,a1,I,Θ,rfl,s,by simpa using ab⟩
       case round=>
        obtain ⟨q,m2,c2,a2,hq,rfl,rfl,z,ad⟩:=hrel;obtain ⟨b2,o2,y,rfl,R,ai,_,ay,aj⟩:=(hh.grow (hG.trans z)).at f;obtain rfl:H k=y:=(by rw[ZeM f] at R;exact JJ R);clear R;by_cases bh:(q:Int)<2*H k+1
        ·have bm:m2<=4000:=(by have h1:=ad.len;rw[JY,List.length_map,List.length_range] at h1;have h2:=ZtP (l:=ZgR H k) (lo:= -H k) (d:=2*H k+1) (j:=j) (k:=q) (by rw[aa.out];exact J) I;rw[aa.out] at h2;have:=a7.out;omega);obtain ⟨⟨vs,hO,hI⟩,aq⟩:=ad;have hE:Own (wr.alloc (.cells #[] 3)) 3 1 (some ⟨wr.heap.size,0,none⟩) 0 0 []:=Own.fresh Γ rfl;have a9:RdI wr (fun _=>True) av v.length cv v:=ao.grow z;have ba:v.length<=24:=(by have:=a8.out;omega);go_wp2_with (first
          |(at_builtin;refine ZD rfl (.tmp 60) (.tmp 67) _ rfl Zlo rfl (hO.grow (G3.alloc _ _)) rfl (Row.built (S:=fun _=>True) 1 Γ rfl trivial) γ I Γ ?_;intro a4 c4 w4 ae)
          |(at_builtin;refine ZD rfl (.tmp 63) (.tmp 65) _ rfl T_ints rfl (hO2.grow ((JH _).alloc _ _)) rfl (Row.built (S:=fun _=>True) 1 Γ rfl trivial) γ I Γ ?_;intro a3 c3 w3 B;have G3:Grow wr w3:=B.grow (hGg2.alloc _ _) (fun g hg=>hB2 g hg))
          |(at_builtin;refine ZD rfl (.tmp 61) (.tmp 62) _ rfl T_ints rfl hE rfl (a9.row.grow ((JH _).alloc _ _)) (ZdE _) I Γ ?_;intro ar bb w2 hA2;have hGg2:Grow wr w2:=hA2.grow ((JH wr).alloc _ _) (fun g hg=>κ);have hO2:Own w2 3 1 ar v.length bb (ints v):=Dc;have hB2: ∀ q,blk ar=some q->wr.heap.size<=q:=hA2.lo Θ (fun g hg=>κ)))
         have bc: ∀ g,blk a3=some g->wr.heap.size<=g:=B.lo (by have:=hGg2.size;simp;omega) (fun g hg=>hB2 g hg);have aw:Own w3 3 1 a3 (v++[-H k+(q:Int)]).length c3 (ints (v++[-H k+(q:Int)])):=(by simpa using B.own);have L:Apped (w3.alloc (.cells #[.slice a3 (v.length+1) c3] 35)) w4 35 1 a2 a4 (m2+1) c4 (vs++[.slice a3 (v++[-H k+(q:Int)]).length c3]):=(by simpa using ae);have hR:=SepII.app hI aq (G3.alloc _ _) (aw.grow ((JH _).alloc _ _)) (fun x A=>by
          rcases Kg.1 A with h|h
          ·exact ao.rng x h
          ·obtain rfl:=Kv.1 h;unfold I64;omega) z.size bc L
         have bd:Grow Y w4:=ae.grow (z.trans (G3.alloc _ _)) (fun g hg=>(aq g hg).1);clear hA2 B ae L hO2 aw hI hO hE;go_wp2;go_roundw;case rel=>exact ⟨q+1,m2+1,c4,a4,I,Δ,rfl,bd,by rw[Zr5, ←List.append_assoc];exact hR⟩
         case measure=>exact FN
        ·go_wp2;go_roundw;case rel=>have e:q=(2*H k+1).toNat:=I;subst e;exact ⟨j+1,m2,c2,a2,I,Δ,rfl,z,by rw[ZqH Hv.out];exact ad⟩
         case measure=>exact FN
      ·go_wp2;go_roundw;case rel=>obtain rfl:j=m:=I;rw[Z5 aa.out] at ab;exact ⟨k+1,m1,c1,a1,I,Δ,rfl,hG.trans s,ab.weak fun b _ h=>⟨by have:=h.1;have:=hG.size;omega,h.2⟩⟩
       case measure=>exact FN
    ·go_wp2
     go_ret2
     obtain rfl:k=n:=I;exact ⟨_,_,_,true,_,rfl,hS.rdII fun _ _=>trivial,by have:=HP.out k (JM _);rw[af.out, ←Zkh,hS.len] at this;exact this,fun v X=>Zkq HH.out (JM _) X,hG⟩

end Go.Proofs.YtgjefeiddfjjnaaGreatDoor
