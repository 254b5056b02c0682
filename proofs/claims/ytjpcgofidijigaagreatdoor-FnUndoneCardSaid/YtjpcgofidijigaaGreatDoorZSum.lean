/- Sums, integer matrices as functions, and what divides what: plain. -/
import Derived.Test.YtjpcgofidijigaaGreatDoorZRatI
import Derived.Test.YtjpcgofidijigaaGreatDoorZSortLay
import Derived.Test.YtjpcgofidijigaaGreatDoorZValA
import Derived.Test.YtjpcgofidijigaaGreatDoorZAdj
set_option maxHeartbeats 8000000
set_option maxRecDepth 100000
namespace Go.Proofs.YtjpcgofidijigaaGreatDoor
open Go.RowKit
open Lib (hid)
variable {C N R R' R1 R2 R3 c g i j k n:Nat} {S:Nat->Prop} {a:Option Addr} {d v:Nat->Int} {l:List (List Int)} {lo:Int} {w:World}
--BODY
def sm:Nat->(Nat->Int)->Int
 |0,_=>0
 |n+1,f=>sm n f+f n
theorem ZdS {f g:Nat->Int}: ∀ {n:Nat},(∀ i,i<n->f i=g i)->sm n f=sm n g
 |0,_=>rfl
 |n+1,h=>by simp only[sm];rw[ZdS fun i hi=>h i (by omega),h n (by omega)]
theorem ZhN {f:Nat->Int}: ∀ {n:Nat},(∀ i,i<n->f i=0)->sm n f=0
 |0,_=>rfl
 |n+1,h=>by simp only[sm];rw[ZhN fun i hi=>h i (by omega),h n (by omega)];rfl
theorem Zpa (f g:Nat->Int): ∀ n:Nat,sm n (fun i=>f i+g i)=sm n f+sm n g
 |0=>rfl
 |n+1=>by simp only[sm];rw[Zpa f g n];omega
theorem Zla (c:Int) (f:Nat->Int): ∀ n:Nat,sm n (fun i=>c*f i)=c*sm n f
 |0=>by simp[sm]
 |n+1=>by simp only[sm];rw[Zla c f n,Int.mul_add]
theorem ZrQ (c:Int) (f:Nat->Int) (n:Nat):sm n (fun i=>f i*c)=sm n f*c:=by
 rw[Int.mul_comm, ←Zla];exact ZdS fun i _=>Int.mul_comm _ _
theorem Zm3 (f:Nat->Nat->Int): ∀ n m:Nat,sm n (fun i=>sm m fun j=>f i j)=sm m (fun j=>sm n fun i=>f i j)
 |0,m=>(ZhN fun _ _=>rfl).symm
 |n+1,m=>by simp only[sm];rw[Zm3 f n m, ←Zpa]
theorem ZlD {f:Nat->Int} {c:Nat}: ∀ {n:Nat},c<n->(∀ i,i<n->i≠c->f i=0)->sm n f=f c
 |0,h,_=>by omega
 |n+1,h,hz=>by
  simp only[sm];by_cases e:c=n
  ·subst e;rw[ZhN fun i hi=>hz i (by omega) (by omega)];omega
  ·rw[ZlD (by omega) fun i hi=>hz i (by omega),hz n (by omega) (fun e2=>e e2.symm)];omega
abbrev Mx:=Nat->Nat->Int
variable {A A' B B' M M' M1 M2 M3:Mx}
def mm (n:Nat) (A B:Mx):Mx:=fun i j=>sm n fun k=>A i k*B k j
theorem Zf2 (n m:Nat) (A B D:Mx) (i j:Nat):mm m (mm n A B) D i j=mm n A (mm m B D) i j:=by
 unfold mm;rw[ZdS (g:=fun k=>sm n fun q=>A i q*B q k*D k j) fun k _=>(ZrQ _ _ _).symm,Zm3];refine ZdS fun k _=> ?_;rw[←Zla];exact ZdS fun q _=>Int.mul_assoc _ _ _
theorem Zlh (h1: ∀ k,k<n->A i k=A' i k) (h2: ∀ k,k<n->B k j=B' k j):mm n A B i j=mm n A' B' i j:=
 ZdS fun k hk=>by rw[h1 k hk,h2 k hk]
def Zgw:Mx:=fun i j=>if i=j then 1 else 0
theorem Zm2 (hi:i<n):mm n Zgw A i j=A i j:=by
 unfold mm;rw[ZlD hi fun k _ hk=>by unfold Zgw;rw[if_neg fun e=>hk e.symm,Int.zero_mul]];unfold Zgw;rw[if_pos rfl,Int.one_mul]
theorem ZrL (hj:j<n):mm n A Zgw i j=A i j:=by
 unfold mm;rw[ZlD hj fun k _ hk=>by unfold Zgw;rw[if_neg hk,Int.mul_zero]];unfold Zgw;rw[if_pos rfl,Int.mul_one]
def Fct (R' C':Nat) (M':Mx) (R C:Nat) (M:Mx):Prop:= ∃ A B:Mx, ∀ i j,i<R'->j<C'->M' i j=mm C (mm R A M) B i j
theorem Fct.refl (R C:Nat) (M:Mx):Fct R C M R C M:=⟨Zgw,Zgw,fun i j hi hj=>by rw[ZrL hj,Zm2 hi]⟩
theorem Zj0 (h: ∀ k,k<n->B k j=B' k j):mm n A B i j=mm n A B' i j:=Zlh (fun _ _=>rfl) h
theorem Zkr (h: ∀ k,k<n->A i k=A' i k):mm n A B i j=mm n A' B i j:=Zlh h fun _ _=>rfl
theorem Fct.trans {C1 C2 C3:Nat} (h:Fct R1 C1 M1 R2 C2 M2) (h':Fct R2 C2 M2 R3 C3 M3):Fct R1 C1 M1 R3 C3 M3:=by
 obtain ⟨A,B,h⟩:=h;obtain ⟨A',B',h'⟩:=h';refine ⟨mm R2 A A',mm C2 B' B,fun i j hi hj=> ?_⟩;rw[h i j hi hj];have e1: ∀ k,k<C2->mm R2 A M2 i k=mm C3 (mm R3 (mm R2 A A') M3) B' i k:=fun k hk=>by rw[Zj0 (B':=mm C3 (mm R3 A' M3) B') fun q hq=>h' q k hq hk, ←Zf2];exact Zkr fun q _=>(Zf2 _ _ _ _ _ _ _).symm
 rw[Zkr e1,Zf2]
def Rwf (R':Nat) (M':Mx) (R C:Nat) (M:Mx):Prop:= ∃ A:Mx, ∀ i j,i<R'->j<C->M' i j=mm R A M i j
theorem Rwf.refl (R C:Nat) (M:Mx):Rwf R M R C M:=⟨Zgw,fun _ _ hi _=>(Zm2 hi).symm⟩
theorem Rwf.trans (h:Rwf R1 M1 R2 C M2) (h':Rwf R2 M2 R3 C M3):Rwf R1 M1 R3 C M3:=by
 obtain ⟨A,h⟩:=h;obtain ⟨A',h'⟩:=h';refine ⟨mm R2 A A',fun i j hi hj=> ?_⟩;rw[h i j hi hj,Zj0 (B':=mm R3 A' M3) fun q hq=>h' q j hq hj,Zf2]
def Spn (R C:Nat) (M:Mx) (v:Nat->Int):Prop:= ∃ a:Nat->Int, ∀ j,j<C->v j=sm R fun i=>a i*M i j
theorem Rwf.of_rows (h: ∀ i,i<R'->Spn R C M (M' i)):Rwf R' M' R C M:=by
 have h2: ∀ i, ∃ a:Nat->Int,i<R'-> ∀ j,j<C->M' i j=sm R fun q=>a q*M q j:=fun i=>by
  by_cases hi:i<R'
  ·obtain ⟨a,ha⟩:=h i hi;exact ⟨a,fun _=>ha⟩
  ·exact ⟨fun _=>0,fun h=>(hi h).elim⟩
 exact ⟨fun i=>(h2 i).choose,fun i j hi hj=>(h2 i).choose_spec hi j hj⟩
theorem Rwf.row (h:Rwf R' M' R C M) (hi:i<R'):Spn R C M (M' i):=by
 obtain ⟨A,h⟩:=h;exact ⟨A i,fun j hj=>h i j hi hj⟩
theorem Spn.of_rwf (h:Spn R' C M' v) (h':Rwf R' M' R C M):Spn R C M v:=by
 have:Rwf 1 (fun _=>v) R' C M':=Rwf.of_rows fun _ _=>h;exact (this.trans h').row (i:=0) (by omega)
theorem Spn.row (hi:i<R):Spn R C M (M i):=(Rwf.refl R C M).row hi
theorem Spn.zero (h: ∀ j,j<C->v j=0):Spn R C M v:=⟨fun _=>0,fun j hj=>by rw[h j hj,ZhN fun _ _=>Int.zero_mul _]⟩
theorem Spn.congr {u:Nat->Int} (h:Spn R C M v) (e: ∀ j,j<C->u j=v j):Spn R C M u:=by
 obtain ⟨a,ha⟩:=h;exact ⟨a,fun j hj=>(e j hj).trans (ha j hj)⟩
theorem Spn.sum {u:Nat->Nat->Int} {a:Nat->Int} {x:Nat->Int} (h: ∀ k,k<n->Spn R C M (u k)) (e: ∀ j,j<C->x j=sm n fun k=>a k*u k j):Spn R C M x:=by
 have:Rwf n u R C M:=Rwf.of_rows h;exact Spn.of_rwf ⟨a,e⟩ this
theorem Zje: ∀ (M N:Nat) (g:Nat->Nat),(∀ i,i<N->g i<M)->(∀ i k,i<N->k<N->g i=g k->i=k)->N<=M
 |0,N,g,h1,_=>by
  cases N with
  |zero=>exact Nat.le_refl _
  |succ N=>exact absurd (h1 0 (by omega)) (by omega)
 |M+1,N,g,h1,h2=>by
  by_cases h: ∃ i,i<N/\g i=M
  ·obtain ⟨p,hp,hpM⟩:=h;have:=Zje M (N-1) (fun i=>g (if i<p then i else i+1)) (fun i hi=>by
    have h3:=h1 (if i<p then i else i+1) (by split<;>omega);have h4:g (if i<p then i else i+1)≠M:=fun e=>(by have:=h2 _ p (by split<;>omega) hp (e.trans hpM.symm);split at this<;>omega);show g (if i<p then i else i+1)<M;omega) (fun i k hi hk e=>by
    have:=h2 _ _ (by split<;>omega) (by split<;>omega) e;split at this<;>split at this<;>omega)
   omega
  ·have:=Zje M N g (fun i hi=>by
    have h3:=h1 i hi;have h4:g i≠M:=fun e=>h ⟨i,hi,e⟩;omega) h2
   omega
abbrev Vc:=Nat->Int
variable {K L:Vc->Prop}
structure Lt (L:Vc->Prop):Prop where
 zero:L fun _=>0
 add: ∀ v w,L v->L w->L fun j=>v j+w j
 neg: ∀ v,L v->L fun j=> -v j
theorem Lt.sub (h:Lt L) {v w:Vc} (hv:L v) (hw:L w):L fun j=>v j-w j:=by
 have:=h.add _ _ hv (h.neg _ hw);simpa [Int.sub_eq_add_neg] using this
def Ix (K L:Vc->Prop) (N:Nat):Prop:= ∃ f:Nat->Vc,(∀ i,i<N->K (f i))/\(∀ v,K v-> ∃ i,i<N/\L fun j=>v j-f i j)/\ ∀ i k,i<N->k<N->(L fun j=>f i j-f k j)->i=k
theorem Ix.le (hL:Lt L) {M:Nat} (h:Ix K L N) (h':Ix K L M):N<=M:=by
 obtain ⟨f,f1,f2,f3⟩:=h;obtain ⟨g,g1,g2,g3⟩:=h'
 let q:Nat->Nat:=fun i=>if hi:i<N then (g2 (f i) (f1 i hi)).choose else 0
 have hq: ∀ i,i<N->q i<M/\L fun j=>f i j-g (q i) j:=fun i hi=>by have:=(g2 (f i) (f1 i hi)).choose_spec;simp only[q,dif_pos hi];exact this
 refine Zje M N q (fun i hi=>(hq i hi).1) fun i k hi hk e=>f3 i k hi hk ?_;have h1:=(hq i hi).2;have h2:=(hq k hk).2;rw[←e] at h2;have:=hL.sub h1 h2;have h3:(fun j=>f i j-g (q i) j-(f k j-g (q i) j))=fun j=>f i j-f k j:=by funext j;omega
 rw[h3] at this;exact this
theorem Ix.same (hL:Lt L) {M:Nat} (h:Ix K L N) (h':Ix K L M):N=M:=Nat.le_antisymm (h.le hL h') (h'.le hL h)
theorem Ix.tower {J:Vc->Prop} (hK:Lt K) (hLK: ∀ v,L v->K v) (hKJ: ∀ v,K v->J v) (hJ:Lt J) {M:Nat} (h:Ix J K N) (h':Ix K L M):Ix J L (N*M):=by
 obtain ⟨f,f1,f2,f3⟩:=h;obtain ⟨g,g1,g2,g3⟩:=h';refine ⟨fun x j=>f (x/M) j+g (x%M) j,fun x hx=> ?_,fun v hv=> ?_,fun x y hx hy e=> ?_⟩
 ·have hM:0<M:=Nat.pos_of_ne_zero fun e=>by rw[e] at hx;simp at hx
  exact hJ.add _ _ (f1 _ (Nat.div_lt_of_lt_mul (by rw[Nat.mul_comm];exact hx))) (hKJ _ (g1 _ (Nat.mod_lt _ hM)))
 ·obtain ⟨i,hi,h1⟩:=f2 v hv;obtain ⟨k,hk,h2⟩:=g2 _ h1;refine ⟨i*M+k, ?_, ?_⟩
  ·have:(i+1)*M<=N*M:=Nat.mul_le_mul_right _ hi;rw[Nat.add_mul] at this;omega
  ·have e1:(i*M+k)/M=i:=(by rw[Nat.mul_comm,Nat.mul_add_div (by omega),Nat.div_eq_of_lt hk];rfl);have e2:(i*M+k)%M=k:=(by rw[Nat.mul_comm,Nat.mul_add_mod,Nat.mod_eq_of_lt hk]);simp only[e1,e2];have h3:(fun j=>v j-f i j-g k j)=fun j=>v j-(f i j+g k j):=(by funext j;omega);rw[h3] at h2;exact h2
 ·have hM:0<M:=Nat.pos_of_ne_zero fun e=>by rw[e] at hx;simp at hx
  have b1:=Nat.mod_lt x hM;have b2:=Nat.mod_lt y hM;have e1:x/M=y/M:=by refine f3 _ _ (Nat.div_lt_of_lt_mul (by rw[Nat.mul_comm];exact hx)) (Nat.div_lt_of_lt_mul (by rw[Nat.mul_comm];exact hy)) ?_;have h1:=hK.sub (hLK _ e) (hK.sub (g1 _ b1) (g1 _ b2));have h3:(fun j=>f (x/M) j+g (x%M) j-(f (y/M) j+g (y%M) j)-(g (x%M) j-g (y%M) j))=fun j=>f (x/M) j-f (y/M) j:=(by funext j;omega);rw[h3] at h1;exact h1
  have e2:x%M=y%M:=by refine g3 _ _ b1 b2 ?_;simp only[e1] at e;have h3:(fun j=>f (y/M) j+g (x%M) j-(f (y/M) j+g (y%M) j))=fun j=>g (x%M) j-g (y%M) j:=(by funext j;omega);rw[h3] at e;exact e
  have d1:=Nat.div_add_mod x M;have d2:=Nat.div_add_mod y M;rw[e1,e2] at d1;omega
def Dv (d:Nat->Int) (n:Nat):Vc->Prop:=fun v=> ∀ j,j<n->d j∣v j
theorem Dv.lt:Lt (Dv d n):=
 ⟨fun _ _=>Int.dvd_zero _,fun _ _ hv hw j hj=>Int.dvd_add (hv j hj) (hw j hj),fun _ hv j hj=>Int.dvd_neg.2 (hv j hj)⟩
def pdN (d:Nat->Int):Nat->Nat
 |0=>1
 |n+1=>pdN d n*(d n).toNat
theorem Ix.dv_one (hd:0<d n):Ix (Dv d n) (Dv d (n+1)) (d n).toNat:=by
 refine ⟨fun i j=>if j=n then (i:Int) else 0,fun i _ j hj=> ?_,fun v hv=> ?_,fun i k hi hk e=> ?_⟩
 ·show d j∣(if j=n then (i:Int) else 0);rw[if_neg (by omega)];exact Int.dvd_zero _
 ·have h0:=Int.emod_nonneg (v n) (show d n≠0 by omega);have h1:=Int.emod_lt_of_pos (v n) hd;refine ⟨(v n%d n).toNat,by omega,fun j hj=> ?_⟩;show d j∣v j-(if j=n then (((v n%d n).toNat:Nat):Int) else 0);by_cases e:j=n
  ·subst e;rw[if_pos rfl,Int.toNat_of_nonneg h0];exact Int.dvd_self_sub_emod
  ·rw[if_neg e,Int.sub_zero];exact hv j (by omega)
 ·have h:=e n (by omega);simp only[if_true] at h;have h3:(i:Int)%d n=(k:Int)%d n:=Int.emod_eq_emod_iff_emod_sub_eq_zero.2 (Int.emod_eq_zero_of_dvd h);rw[Int.emod_eq_of_lt (by omega) (by omega),Int.emod_eq_of_lt (by omega) (by omega)] at h3;omega
theorem Ix.dv {d:Nat->Int} (hd: ∀ j,0<d j): ∀ n,Ix (fun _=>True) (Dv d n) (pdN d n)
 |0=>⟨fun _ _=>0,fun _ _=>trivial,fun v _=>⟨0,Nat.one_pos,fun j hj=>by omega⟩,fun i k hi hk _=>by simp only[pdN] at hi hk;omega⟩
 |n+1=>Ix.tower Dv.lt (fun v hv j hj=>hv j (by omega)) (fun _ _=>trivial) ⟨trivial,fun _ _ _ _=>trivial,fun _ _=>trivial⟩ (Ix.dv hd n) (Ix.dv_one (hd n))
def ZfA (l d:Int) (v:List Int):List (List Int):=(List.range d.toNat).map fun (k:Nat)=>v++[l+(k:Int)]
def ZfE (H:Nat->Int):Nat->List (List Int)
 |0=>[[]]
 |n+1=>(ZfE H n).flatMap (ZfA (-H n) (2*H n+1))
theorem Zmp {α β:Type} {l:List α} {f:α->List β} (h: ∀ x∈l,(f x).length=c):(l.flatMap f).length=l.length*c:=by
 induction l with
 |nil=>simp
 |cons x r ih=>rw[List.flatMap_cons,List.length_append,ih fun y hy=>h y (List.mem_cons_of_mem _ hy),h x (List.mem_cons_self ..),List.length_cons,Nat.add_mul,Nat.one_mul,Nat.add_comm]
theorem ZqI {D:Nat->Int} (h: ∀ i,i<n->0<D i): ∀ {i:Nat},i<=n->pdN D i<=pdN D n:=by
 induction n with
 |zero=>
  intro i hi;obtain rfl:i=0:=by omega
  exact Nat.le_refl _
 |succ n ih=>
  intro i hi;by_cases e:i=n+1
  ·subst e;exact Nat.le_refl _
  ·refine Nat.le_trans (ih (fun i hi=>h i (by omega)) (by omega)) ?_;have:=h n (by omega);exact Nat.le_mul_of_pos_right _ (by omega)
theorem SepII.one {w1:World} {h:Nat} (hg:g=w.heap.size) (hw:w1=w.alloc (.cells #[] 3)) (hh:h=w.heap.size+1):
  SepII (w1.alloc (.cells #[.slice (some ⟨g,0,none⟩) 0 0] 32)) (New w (w1.alloc (.cells #[.slice (some ⟨g,0,none⟩) 0 0] 32))) (some ⟨h,0,none⟩) 1 1 [[]]:=by
 subst hg hw hh;have hs:(w.alloc (.cells #[] 3)).heap.size=w.heap.size+1:=by simp
 have h1:Own (w.alloc (.cells #[] 3)) 3 1 (some ⟨w.heap.size,0,none⟩) 0 0 (ints []):=Own.fresh (by unfold maxLen;omega) rfl;have h2:Own ((w.alloc (.cells #[] 3)).alloc (.cells #[.slice (some ⟨w.heap.size,0,none⟩) 0 0] 32)) 32 1 (some ⟨w.heap.size+1,0,none⟩) 1 1 [.slice (some ⟨w.heap.size,0,none⟩) 0 0]:=Own.freshAt (by rw[hs]) (by unfold maxLen;omega) rfl;refine ⟨⟨_,h2, ?_⟩,fun q hq=> ?_⟩
 ·have h3:=Inner.snoc (w:=(w.alloc (.cells #[] 3)).alloc (.cells #[.slice (some ⟨w.heap.size,0,none⟩) 0 0] 32)) (F:=New w ((w.alloc (.cells #[] 3)).alloc (.cells #[.slice (some ⟨w.heap.size,0,none⟩) 0 0] 32))) (g:=some (w.heap.size+1)) Inner.nilw (b:=some ⟨w.heap.size,0,none⟩) (c:=0) (xs:=[]) (h1.grow ((Grow.refl _).alloc _ _)) (fun x hx=>by cases hx)
   (fun q hq=>by simp at hq;subst hq;exact ⟨⟨Nat.le_refl _,by simp;omega⟩,by simp⟩) (fun q _ v hv=>by cases hv)
  exact h3
 ·simp at hq;subst hq;exact ⟨by omega,by simp⟩
theorem RdII.nilw (w:World):RdII w S none 0 0 []:=⟨⟨[],(RdI.nilw (S:=S) w).row,fun i xs h=>by simp at h⟩,rfl⟩
theorem Zmg (l d:Int) (v:List Int):(ZfA l d v).length=d.toNat:=by unfold ZfA;simp
theorem Ziu (H:Nat->Int): ∀ n,(ZfE H n).length=pdN (fun i=>2*H i+1) n
 |0=>rfl
 |n+1=>by simp only[ZfE,pdN];rw[Zmp (c:=(2*H n+1).toNat) (fun x _=>Zmg _ _ x),Ziu H n]
theorem ZiH {H:Nat->Int} {m:Nat} (hH: ∀ i,i<m->0<=H i/\H i<=20000): ∀ {n:Nat},n<=m-> ∀ {v:List Int},v∈ZfE H n->v.length=n/\ ∀ x∈v, -20000<=x/\x<=20000
 |0,_,v,h=>by simp only[ZfE,List.mem_singleton] at h;subst h;exact ⟨rfl,fun x hx=>by cases hx⟩
 |n+1,hm,v,h=>by
  simp only[ZfE,ZfA,List.mem_flatMap,List.mem_map,List.mem_range] at h;obtain ⟨u,hu,k,hk,rfl⟩:=h;obtain ⟨h1,h2⟩:=ZiH hH (by omega) hu;refine ⟨by simp[h1],fun x hx=> ?_⟩;rcases List.mem_append.1 hx with hx|hx
  ·exact h2 x hx
  ·rw[List.mem_singleton.1 hx];have:=hH n (by omega);omega
theorem ZqV {d:Int} (hj:j<l.length) (hk:(k:Int)<=d):((l.take j).flatMap (ZfA lo d)).length+k<=l.length*d.toNat:=by
 rw[Zmp (c:=d.toNat) fun x _=>Zmg _ _ x,List.length_take,Nat.min_eq_left (by omega)];have:(j+1)*d.toNat<=l.length*d.toNat:=Nat.mul_le_mul_right _ hj;rw[Nat.add_mul] at this;omega
theorem Znx {d:Int} {v:List Int} (hv:l[j]? =some v):(l.take (j+1)).flatMap (ZfA lo d)=(l.take j).flatMap (ZfA lo d)++ZfA lo d v:=by
 rw[ZH hv,List.flatMap_append];simp
theorem Zoq {v:List Int}:(List.range (k+1)).map (fun (k:Nat)=>v++[lo+(k:Int)])=(List.range k).map (fun (k:Nat)=>v++[lo+(k:Int)])++[v++[lo+(k:Int)]]:=by
 rw[List.range_succ,List.map_append];rfl
theorem ZqK {T:Nat->Prop} (la ha:Option Addr) (n lc hc:Nat) (H:Nat->Int) (w:World) (hl:RdI w S la n lc ((List.range n).map fun i=> -H i)) (hh:RdI w T ha n hc ((List.range n).map H)) (hn:n<=24) (hH: ∀ i,i<n->0<=H i/\H i<=20000):
  Calls Tryz.prog 81 #[.slice la n lc, .slice ha n hc] w fun e w'=> ∃ a m c ok rows,e= .returned (.tuple #[.slice a m c, .bool ok])/\RdII w' (fun _=>True) a m c rows/\m<=4000/\(∀ v∈rows,v.length=n/\ ∀ x∈v, -20000<=x/\x<=20000)/\Grow w w':=by
 obtain ⟨D,hDd⟩: ∃ D:Nat->Int,D=fun i=>2*H i+1:=⟨_,rfl⟩;have hDk: ∀ i,D i=2*H i+1:=fun i=>by rw[hDd]
 have hD: ∀ i,i<n->0<D i/\D i<=40001:=fun i hi=>by have:=hH i hi;have:=hDk i;omega
 have hpos: ∀ i,i<n->0<D i:=fun i hi=>(hD i hi).1;have HDd:=hid hDd;have HDk:=hid hDk;have HH:=hid hH;have Hpos:=hid hpos;clear hpos hDd hDk hH;go_enter Tryz.func81,Tryz.ntmps81;go_wp2;go_loopw [6,16] (fun q i wr=>Qt w wr/\ ∃ k:Nat,k<=n/\i= .int .i64 k/\q= .int .i64 (pdN D k:Nat)/\pdN D k<=4000) (fun _ i _=>n-(intOf i).toNat);case atStart=>exact ⟨Qt.refl _,0,Nat.zero_le _,rfl,rfl,by simp[pdN]⟩
 case round=>
  obtain ⟨hQ,k,hk,rfl,rfl,h1⟩:=hrel;by_cases hlt:k<n
  ·obtain ⟨b1,o1,x,rfl,hx,hxr,_,hb1,hc1⟩:=(hl.grow hQ.grow).at hlt;obtain ⟨b2,o2,y,rfl,hy,hyr,_,hb2,hc2⟩:=(hh.grow hQ.grow).at hlt;obtain rfl: -H k=x:=(by rw[Zdt hlt] at hx;exact Option.some.inj hx);obtain rfl:H k=y:=(by rw[Zdt hlt] at hy;exact Option.some.inj hy);clear hx hy;obtain ⟨hd1,hd2⟩:=hD k hlt;have hdk:=HDk.out k;have hhk:=HH.out k hlt;have h3:((pdN D (k+1):Nat):Int)=(pdN D k:Nat)*D k:=(by simp only[pdN];rw[Int.natCast_mul,Int.toNat_of_nonneg (by omega)]);obtain ⟨h,hhe⟩: ∃ h,H k=h:=⟨_,rfl⟩;obtain ⟨P,hPd⟩: ∃ P:Nat,pdN D k=P:=⟨_,rfl⟩;obtain ⟨P',hPd'⟩: ∃ P:Nat,pdN D (k+1)=P:=⟨_,rfl⟩;rw[hhe] at hdk hhk hxr hyr hc1 hc2;rw[hdk] at h3;rw[hPd] at h1 h3;rw[hPd'] at h3;rw[hPd];have hP'b:P'<=160004000:=(by have h4:(P:Int)*(2*h+1)<=4000*40001:=Int.mul_le_mul (by omega) (by omega) (by omega) (by omega);omega);have hh1:h+h+1=2*h+1:=(by omega);have hw:wrap64 ((P:Int)*(2*h+1))=P':=(by rw[←h3];unfold wrap64;omega);have HPd':=hid hPd';have u1:wrap64 (h- -h)=h- -h:=(by unfold wrap64;omega);have u2:wrap64 (h- -h+1)=h- -h+1:=(by unfold wrap64;omega);clear h3 hPd hPd' hhe HDk HH Hpos hdk;go_wp2
   go_quiet (fail)
   rw[hw];by_cases hbig:4000<P'
   ·go_wp2
    go_ret2
    exact ⟨none,0,0,false,[],rfl,RdII.nilw _,by omega,(fun v hv=>by cases hv),by first |exact hQ.grow|exact (hQ.drewN _).grow⟩
   ·go_wp2;go_roundw;case rel=>exact ⟨hQ.drewN _,k+1,by omega,by go_num,by rw[HPd'.out],by rw[HPd'.out];omega⟩
    case measure=>simp[intOf];omega
  ·obtain rfl:n=k:=(by omega);have HP:=hid (fun i (hi:i<=n)=>Nat.le_trans (ZqI Hpos.out hi) h1);clear h1;go_wp2;obtain ⟨wx,hwx⟩: ∃ x,x=wr:=⟨_,rfl⟩;go_loopw [8,38] (fun o i wr=> ∃ (k m c:Nat) (a:Option Addr),k<=n/\i= .int .i64 k/\o= .slice a m c/\Grow w wr/\SepII wr (New w wr) a m c (ZfE H k)) (fun _ i _=>n-(intOf i).toNat);case atStart=>have hs:=hQ.grow.size;refine ⟨0,1,1,_,Nat.zero_le _,rfl,rfl,(hQ.grow.alloc _ _).alloc _ _,(SepII.one rfl rfl (by simp)).weak fun b _ h=>⟨by have:=h.1;omega,h.2⟩⟩
   case round=>
    clear hwx hQ;obtain ⟨k,m,c,a,hk,rfl,rfl,hG,hS⟩:=hrel;by_cases hlt:k<n
    ·obtain ⟨wo,rfl⟩: ∃ wo,wo=wr:=⟨_,rfl⟩;have hml:=hS.len;have hmP:m=pdN D k:=(by rw[←hml,Ziu,HDd.out]);have hp1:=HP.out (k+1) hlt;have hp2:=HP.out k hk;simp only[pdN] at hp1;rw[HDk.out] at hp1;rw[←hmP] at hp1 hp2;have hhk:=HH.out k hlt;have Hml:=hid hml;have Hp1:=hid hp1;obtain ⟨hd1,hd2⟩:=hD k hlt;clear hml hmP hp1;go_wp2;go_loopw [10,44] (fun o i wr=> ∃ (j m1 c1:Nat) (a1:Option Addr),j<=m/\i= .int .i64 j/\o= .slice a1 m1 c1/\Grow wo wr/\SepII wr (New wo wr) a1 m1 c1 (((ZfE H k).take j).flatMap (ZfA (-H k) (2*H k+1)))) (fun _ i _=>m-(intOf i).toNat);case atStart=>exact ⟨0,0,0,_,Nat.zero_le _,rfl,rfl,(Grow.refl wo).alloc _ _,SepII.fresh0 wo⟩
     case round=>
      obtain ⟨j,m1,c1,a1,hj,rfl,rfl,hG1,hS1⟩:=hrel;by_cases hlt2:j<m
      ·obtain ⟨bv,ov,v,av,cv,rfl,hv,_,hbv0,hcv0,hrd⟩:=(hS.rdII (S:=fun _=>True) fun _ _=>trivial).at hlt2;have hcv:=hG1.cell hcv0;have hs1:=hG1.size;have hbv:bv<wr.heap.size:=(by omega);have hvl:v.length=k:=(ZiH HH.out (Nat.le_of_lt hlt) (List.mem_of_getElem? hv)).1;obtain ⟨b1,o1,x,rfl,hx,hxr,_,hb1,hc1⟩:=(hl.grow (hG.trans hG1)).at hlt;obtain rfl: -H k=x:=(by rw[Zdt hlt] at hx;exact Option.some.inj hx);have Hv:=hid hv;have Hvl:=hid hvl;clear hx hv hvl;obtain ⟨wm,rfl⟩: ∃ wm,wm=wr:=⟨_,rfl⟩;go_wp2;go_loopw [10,13] (fun o i wr=> ∃ (q m2 c2:Nat) (a2:Option Addr),(q:Int)<=2*H k+1/\i= .int .i64 (-H k+(q:Int))/\o= .slice a2 m2 c2/\Grow wo wr/\SepII wr (New wo wr) a2 m2 c2 (((ZfE H k).take j).flatMap (ZfA (-H k) (2*H k+1))++(List.range q).map fun (t:Nat)=>v++[-H k+(t:Int)])) (fun _ i _=>(H k+1-intOf i).toNat);case atStart=>exact ⟨0,m1,c1,a1,by omega,by simp,rfl,hG1,by simpa using hS1⟩
       case round=>
        obtain ⟨q,m2,c2,a2,hq,rfl,rfl,hG2,hS2⟩:=hrel;obtain ⟨b2,o2,y,rfl,hy,hyr,_,hb2,hc2⟩:=(hh.grow (hG.trans hG2)).at hlt;obtain rfl:H k=y:=(by rw[Zdt hlt] at hy;exact Option.some.inj hy);clear hy;by_cases hlt3:(q:Int)<2*H k+1
        ·have hm2:m2<=4000:=(by have h1:=hS2.len;rw[List.length_append,List.length_map,List.length_range] at h1;have h2:=ZqV (l:=ZfE H k) (lo:= -H k) (d:=2*H k+1) (j:=j) (k:=q) (by rw[Hml.out];exact hlt2) (by omega);rw[Hml.out] at h2;have:=Hp1.out;omega);obtain ⟨⟨vs,hO,hI⟩,hlo⟩:=hS2;have hE:Own (wr.alloc (.cells #[] 3)) 3 1 (some ⟨wr.heap.size,0,none⟩) 0 0 []:=Own.fresh (by unfold maxLen;omega) rfl;have hvr:RdI wr (fun _=>True) av v.length cv v:=hrd.grow hG2;have hvl24:v.length<=24:=(by have:=Hvl.out;omega);go_wp2_with (first
          |(at_builtin;refine Zx rfl (.tmp 60) (.tmp 67) _ rfl ZjO rfl (hO.grow (G3.alloc _ _)) rfl (Row.built (S:=fun _=>True) 1 (by unfold maxLen;omega) rfl trivial) (by simp[Value.oneCell']) (by omega) (by unfold maxLen;omega) ?_;intro a4 c4 w4 hA4)
          |(at_builtin;refine Zx rfl (.tmp 63) (.tmp 65) _ rfl T_ints rfl (hO2.grow ((Grow.refl _).alloc _ _)) rfl (Row.built (S:=fun _=>True) 1 (by unfold maxLen;omega) rfl trivial) (by simp[Value.oneCell']) (by omega) (by unfold maxLen;omega) ?_;intro a3 c3 w3 hA3;have G3:Grow wr w3:=hA3.grow (hGg2.alloc _ _) (fun g hg=>hB2 g hg))
          |(at_builtin;refine Zx rfl (.tmp 61) (.tmp 62) _ rfl T_ints rfl hE rfl (hvr.row.grow ((Grow.refl _).alloc _ _)) (Zc9 _) (by omega) (by unfold maxLen;omega) ?_;intro a2' c2' w2 hA2;have hGg2:Grow wr w2:=hA2.grow ((Grow.refl wr).alloc _ _) (fun g hg=>by simp at hg;omega);have hO2:Own w2 3 1 a2' v.length c2' (ints v):=(by simpa using hA2.own);have hB2: ∀ q,blk a2'=some q->wr.heap.size<=q:=hA2.lo (by simp) (fun g hg=>by simp at hg;omega)))
         have hB3: ∀ g,blk a3=some g->wr.heap.size<=g:=hA3.lo (by have:=hGg2.size;simp;omega) (fun g hg=>hB2 g hg);have hO3:Own w3 3 1 a3 (v++[-H k+(q:Int)]).length c3 (ints (v++[-H k+(q:Int)])):=(by simpa using hA3.own);have hA4':Apped (w3.alloc (.cells #[.slice a3 (v.length+1) c3] 32)) w4 32 1 a2 a4 (m2+1) c4 (vs++[.slice a3 (v++[-H k+(q:Int)]).length c3]):=(by simpa using hA4);have hR:=SepII.app hI hlo (G3.alloc _ _) (hO3.grow ((Grow.refl _).alloc _ _)) (fun x hx=>by
          rcases List.mem_append.1 hx with h|h
          ·exact hrd.rng x h
          ·obtain rfl:=List.mem_singleton.1 h;unfold I64;omega) hG2.size hB3 hA4'
         have hG4:Grow wo w4:=hA4.grow (hG2.trans (G3.alloc _ _)) (fun g hg=>(hlo g hg).1);clear hA2 hA3 hA4 hA4' hO2 hO3 hI hO hE;go_wp2;go_roundw;case rel=>exact ⟨q+1,m2+1,c4,a4,by omega,by go_num,rfl,hG4,by rw[Zoq, ←List.append_assoc];exact hR⟩
         case measure=>simp[intOf];omega
        ·go_wp2;go_roundw;case rel=>have e:q=(2*H k+1).toNat:=(by omega);subst e;exact ⟨j+1,m2,c2,a2,by omega,by go_num,rfl,hG2,by rw[Znx Hv.out];exact hS2⟩
         case measure=>simp[intOf];omega
      ·go_wp2;go_roundw;case rel=>obtain rfl:j=m:=(by omega);rw[Z7 Hml.out] at hS1;exact ⟨k+1,m1,c1,a1,by omega,by go_num,rfl,hG.trans hG1,hS1.weak fun b _ h=>⟨by have:=h.1;have:=hG.size;omega,h.2⟩⟩
       case measure=>simp[intOf];omega
    ·go_wp2
     go_ret2
     obtain rfl:k=n:=(by omega);exact ⟨_,_,_,true,_,rfl,hS.rdII fun _ _=>trivial,by have:=HP.out k (Nat.le_refl _);rw[HDd.out, ←Ziu,hS.len] at this;exact this,fun v hv=>ZiH HH.out (Nat.le_refl _) hv,hG⟩
theorem ZqM (es:List (Value×Int)) (e:Value×Int):vcs (es++[e])=vcs es++[e.1, .int .i64 e.2]:=by
 unfold vcs;rw[List.flatMap_append];rfl
theorem Own.at0 {e:TypeId} {sz:Nat} {cap:Nat} {cs:List Value} (h:Own w e sz a n cap cs) (hg:blk a=some g):a=some ⟨g,0,none⟩:=by
 cases a with
 |none=>cases hg
 |some p=>have h1:=(h.block p rfl).1;obtain rfl:p.block=g:=Option.some.inj hg;exact congrArg some h1
def ShQ (v:List Int):Prop:=v.length<=6/\ ∀ x∈v, -20000<=x/\x<=20000
theorem VlC.app {w':World} {Q:List Int->Prop} {B c9:Nat} {a9:Option Addr} {es:List (Value×Int)} {b:Option Addr} {v:List Int} {r:Int} (hE:VlC w (fun q=>q≠g) Q es) (hr:RdI w (fun q=>q<B) b v.length c v) (hv:v.length<=2097152) (hQ:Q v) (h0:0<=r/\r<=10000) (hg:B<=g) (hB:B<=w.heap.size)
  (hA:Apped w w' 120 2 (some ⟨g,0,none⟩) a9 n c9 (vcs es++[.slice b v.length c, .int .i64 r])): ∃ g9,a9=some ⟨g9,0,none⟩/\B<=g9/\Own w' 120 2 (some ⟨g9,0,none⟩) n c9 (vcs (es++[(.slice b v.length c,r)]))/\VlC w' (fun q=>q≠g9) Q (es++[(.slice b v.length c,r)]):=by
 obtain ⟨g9,h9,hg9⟩: ∃ g9,blk a9=some g9/\(g9=g\/w.heap.size<=g9):=by
  rcases hA.new with e|⟨g',e,h'⟩
  ·exact ⟨g,e, .inl rfl⟩
  ·exact ⟨g',e, .inr h'⟩
 have hat:=hA.own.at0 h9;subst hat;refine ⟨g9,rfl,by omega,by rw[ZqM];exact hA.own,fun e he=> ?_⟩;have hE2:VlC w (fun q=>q≠g/\q≠g9) Q (es++[(.slice b v.length c,r)]):=fun e he=>by
  rcases List.mem_append.1 he with he|he
  ·exact (hE.weak (T:=fun q=>q≠g/\q≠g9) fun q hq hne=>⟨hne,by omega⟩) e he
  ·rw[List.mem_singleton.1 he];exact ⟨b,c,v,rfl,hr.weak fun q hq hlt=>⟨by omega,by omega⟩,hv,hQ,h0⟩
 exact ((hE2.keep hA.keep fun q _ hq e=>hq.1 (Option.some.inj e).symm).weak fun q _ hq=>hq.2) e he
theorem Zo0 (hs:List Int):(List.range hs.length).map (fun i=>hs.getD i 0)=hs:=Zh0 hs 0
theorem ZjI {m:Mat} (h:RdI w S a n c m.cells) (hr:I64 m.rows) (hc:I64 m.cols) (hb:m.cells.length<=1048576) (bound:Int):
  Calls Tryz.prog 47 #[.agg #[.int .i64 m.rows, .int .i64 m.cols, .slice a n c], .int .i64 bound] w fun e w'=> ∃ a' n' c' rows ok,e= .returned (.tuple #[.slice a' n' c', .bool ok])/\(ok=true->RdII w' (fun _=>True) a' n' c' rows/\n'<=4000/\ ∀ v∈rows,ShQ v)/\Grow w w':=by
 obtain ⟨w1,hw1,hG1,bM, -⟩:=al1 w #[.int .i64 m.rows, .int .i64 m.cols, .slice a n c] 34;obtain ⟨⟨m0,m1,m2⟩, -⟩:=bM.three;have hltM:=bM.lt;rw[hw1] at m0 m1 m2 hltM;have Hw1:=hid hw1;have hm:=h.grow hG1;clear hw1 h;go_enter Tryz.func47,Tryz.ntmps47;go_wp2_with fail;rw[←Hw1.out];clear m0 m1 m2 hltM;refine (Zrr hm hr hc hb bound).mono ?_;rintro e w2 ⟨ba,bn,bc,hs,ok,rfl,hP,hG2⟩;have hGa:=hG1.trans hG2;cases ok with
 |false=>
  clear hP;go_wp2
  go_ret2
  exact ⟨_,0,0,[],false,rfl,(fun h=>by cases h),hGa.alloc _ _⟩
 |true=>
  obtain ⟨hbn,hsb,hbd,rB⟩:=hP rfl;have hsl:=rB.len;clear hP;go_wp2_with fail;refine (Zpz ba bn bc hs _ rB (by omega) hsb).mono ?_;rintro e w3 ⟨na,nc,rfl,rN,hG3⟩;have rB3:=rB.grow hG3;have hmr:=Zo0 hs;rw[hsl] at hmr;have hbx:=ZqK (S:=fun _=>True) (T:=fun _=>True) na ba bn nc bc (fun i=>hs.getD i 0) w3 (by rw[←hmr,List.map_map] at rN;exact rN) (by rw[hmr];exact rB3) (by omega) (fun i hi=>hsb _ (by rw[List.getD_eq_getElem?_getD,List.getElem?_eq_getElem (by omega)];exact List.getElem_mem _));clear hmr hsb rB rN rB3;go_wp2_with fail;refine hbx.mono ?_;rintro e w4 ⟨xa,xn,xc,ok,rows,rfl,rX,hxn,hrows,hG4⟩;have hG34:=hG3.trans hG4;have hGb:=hGa.trans hG34;clear hbx;cases ok with
  |false=>
   go_wp2
   go_ret2
   exact ⟨_,0,0,[],false,rfl,(fun h=>by cases h),hGb.alloc _ _⟩
  |true=>
   have rX4:=rX.weak (T:=fun q=>q<w4.heap.size) fun q hq _=>hq;have hrl:=rX.len;have Hrows:=hid hrows;have bM4:=(bM.grow hG2).grow hG34;have hm4:=(hm.grow hG2).grow hG34;clear rX hrows bM hm hG1 hG2 hG3 hG4 hG34 hGa Hw1;go_wp2;go_loopw [10,12,37] (fun o v i wr=>Grow w4 wr/\ ∃ (k p c1 g1:Nat) (es:List (Value×Int)),k<=xn/\p<=k/\i= .int .i64 k/\o= .slice (some ⟨g1,0,none⟩) p c1/\w4.heap.size<=g1/\Own wr 120 2 (some ⟨g1,0,none⟩) p c1 (vcs es)/\VlC wr (fun q=>q≠g1) ShQ es) (fun _ _ i _=>xn-(intOf i).toNat);case atStart=>exact ⟨(Grow.refl _).alloc _ _,0,0,0,_,[],Nat.zero_le _,Nat.le_refl _,rfl,rfl,Nat.le_refl _,Own.fresh (by unfold maxLen;omega) rfl,fun e he=>by cases he⟩
   case round=>
    obtain ⟨hG,k,p,c1,g1,es,hk,hpk,rfl,rfl,hg1,oB,hE⟩:=hrel;by_cases hlt:k<xn
    ·obtain ⟨bv,ov,v,av,cv,rfl,hv,_,hbv,hcv,hrd⟩:=(rX4.grow hG).at hlt;have hQv:=Hrows.out v (List.mem_of_getElem? hv);have hvl:v.length<=6:=(by omega);have Hqv:=hid hQv.2;clear hv hQv;go_wp2_with fail;refine (ZiU av v.length cv v _ hrd (by omega)).mono ?_;rintro e w5 ⟨pf,rfl,hG5⟩;have hG45:=hG.trans hG5;have oB5:=oB.grow hG5;have hE5:=hE.keep hG5.any fun _ _ _=>trivial;clear hcv;cases pf with
     |false=>
      go_wp2;go_roundw;case rel=>exact ⟨hG45,k+1,p,c1,g1,es,by omega,by omega,by go_num,rfl,hg1,oB5,hE5⟩
      case measure=>simp[intOf];omega
     |true=>
      obtain ⟨⟨m0,m1,m2⟩, -⟩:=(bM4.grow hG45).three;have hltM:=(bM4.grow hG45).lt;go_wp2_with fail;refine (Zpx (hm4.grow hG45) hr hc hb (hrd.grow hG5) (by omega)).mono ?_;rintro e w6 ⟨r,fine,rfl,hG6⟩;have hG46:=hG45.trans hG6;have oB6:=oB5.grow hG6;have hE6:=hE5.keep hG6.any fun _ _ _=>trivial;clear m0 m1 m2 hltM;cases fine with
      |false=>
       go_wp2;go_roundw;case rel=>exact ⟨hG46,k+1,p,c1,g1,es,by omega,by omega,by go_num,rfl,hg1,oB6,hE6⟩
       case measure=>simp[intOf];omega
      |true=>
       by_cases h1:1<=r
       ·by_cases h2:r<=bound
        ·have hr6:=(hrd.grow hG5).grow hG6;go_wp2_with (at_builtin;refine Zx rfl (.tmp 60) (.tmp 64) _ rfl Zsj rfl (oB6.grow ((Grow.refl _).alloc _ _)) rfl (Row.built (S:=fun _=>True) 1 (by unfold maxLen;omega) rfl trivial) (by simp[Value.oneCell']) (by omega) (by unfold maxLen;omega) ?_;intro a3 c3 w7 hA3);have hGz:Grow w6 (w6.alloc (.cells #[.slice av v.length cv, .int .i64 r] 120)):=(Grow.refl _).alloc _ _;have hs2:=hG46.size;have hG7:Grow w4 w7:=hA3.grow (hG46.trans hGz) fun g hg=>(by simp at hg;omega);have hA3':Apped (w6.alloc (.cells #[.slice av v.length cv, .int .i64 r] 120)) w7 120 2 (some ⟨g1,0,none⟩) a3 (p+1) c3 (vcs es++[.slice av v.length cv, .int .i64 r]):=(by simpa using hA3);obtain ⟨g9,rfl,hg9,oB7,hE7⟩:=VlC.app (B:=w4.heap.size) (hE6.keep hGz.any fun _ _ _=>trivial) (hr6.grow hGz) (by omega) ⟨hvl,Hqv.out⟩ ⟨by omega,by omega⟩ hg1 (by simp;omega) hA3';clear hA3 hA3';go_wp2;go_roundw;case rel=>exact ⟨hG7,k+1,p+1,c3,g9,_,by omega,by omega,by go_num,rfl,hg9,oB7,hE7⟩
         case measure=>simp[intOf];omega
        ·go_wp2;go_roundw;case rel=>exact ⟨hG46,k+1,p,c1,g1,es,by omega,by omega,by go_num,rfl,hg1,oB6,hE6⟩
         case measure=>simp[intOf];omega
       ·go_wp2;go_roundw;case rel=>exact ⟨hG46,k+1,p,c1,g1,es,by omega,by omega,by go_num,rfl,hg1,oB6,hE6⟩
        case measure=>simp[intOf];omega
    ·obtain rfl:k=xn:=(by omega);go_wp2_with fail;refine (ZjB (Q:=ShQ) g1 p c1 es _ oB hE (by omega)).mono ?_;rintro e w5 ⟨ya,yc,ys,rfl,rY,hQ,hK5⟩;go_wp2
     go_ret2
     exact ⟨ya,p,yc,ys,true,rfl,fun _=>⟨rY,by omega,hQ⟩,(hGb.trans hG).keep hK5 fun q hq=>by have:=hGb.size;omega⟩

end Go.Proofs.YtjpcgofidijigaaGreatDoor
