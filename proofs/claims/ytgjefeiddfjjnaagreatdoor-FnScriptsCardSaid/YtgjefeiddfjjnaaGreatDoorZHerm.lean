/- The Hermite form, as plain Lean: cells row by row, the two matrices together; nothing where a number is beyond the limit. -/
import Derived.Test.YtgjefeiddfjjnaaGreatDoorZIsMat
namespace Go.Proofs.YtgjefeiddfjjnaaGreatDoor
open Go.RowKit
open Bool renaming and_eq_true->JQ,false_eq_true->LB,or_eq_true->LW
open Classical renaming byContradiction->LV,em->Mg
open Int renaming ediv_le_of_le_mul->PD,emod_lt->Mt,emod_nonneg->LU,gcd->JS,le_ediv_of_mul_le->Oe,mul_le_mul_of_nonneg_left->Nq,natAbs_mul->NJ,neg_mul->PE,toNat_natCast->K4
open List renaming append_nil->Ma,getD->KJ,getElem?_eq_getElem->JR,getElem?_eq_none->K3,getElem_mem->K7,mem_or_eq_of_mem_set->Lf,mem_range->JW,range->JN,range'->KU,range_eq_range'->Mu
open Nat renaming add_mul->Ki,le_refl->JM,one_mul->LC
open Option renaming bind_some->Kb
open Option.some renaming inj->JJ
variable {C R i i' j k p:Nat} {d n t x:Int} {l m:List Int}
def Zz (f:Nat->Int) (o:Nat):Nat->List Int->List Int
 |0,m=>m
 |k+1,m=>(Zz f o k m).set (o+k) (f k)
theorem ZM (f:Nat->Int) (o:Nat): ∀ (k:Nat) (m:List Int),(Zz f o k m).length=m.length
 |0,_=>rfl
 |k+1,m=>by simp[Zz,ZM f o k m]
theorem Zes {v:Int} (h:i<l.length):(l.set i v).getD j 0=if j=i then v else l.getD j 0:=by
 simp only[List.getD_eq_getElem?_getD,List.getElem?_set];by_cases e:i=j
 ·subst e;simp[h]
 ·rw[if_neg e,if_neg (fun h=>e h.symm)]
theorem ZaV {f:Nat->Int} {o:Nat}: ∀ {k:Nat} {m:List Int} (_:o+k<=m.length) (j:Nat),(Zz f o k m).getD j 0=if o<=j/\j<o+k then f (j-o) else m.getD j 0
 |0,m,_,j=>by simp only[Zz];rw[if_neg I]
 |k+1,m,h,j=>by
  simp only[Zz];rw[Zes (by rw[ZM];omega),ZaV I];by_cases e:j=o+k
  ·subst e;rw[if_pos rfl,if_pos I];congr 1;omega
  ·rw[if_neg e];by_cases e2:o<=j/\j<o+k
   ·rw[if_pos e2,if_pos I]
   ·rw[if_neg e2,if_neg I]
theorem Zee {f:Nat->Int} {o:Nat}: ∀ {k:Nat} {m:List Int} {x:Int},x∈Zz f o k m->x∈m\/ ∃ i,i<k/\x=f i
 |0,m,x,h=> .inl h
 |k+1,m,x,h=>by
  rcases Lf h with h|h
  ·rcases Zee h with h|⟨i,hi,e⟩
   ·exact .inl h
   ·exact .inr ⟨i,I,e⟩
  ·exact .inr ⟨k,I,h⟩
def cell (m:List Int) (C i j:Nat):Int:=m.getD (i*C+j) 0
theorem Zk (h:NumL m) (C i j:Nat): -400000000<=cell m C i j/\cell m C i j<=400000000:=h.getD _
theorem Zf (hj:j<C) (hi:i<R):i*C+j<R*C:=by
 exact I4
theorem Zb5 {j':Nat} (hj:j<C) (hj':j'<C) (h:i*C+j=i'*C+j'):i=i'/\j=j':=by
 rcases Nat.lt_trichotomy i i' with a|a|a
 ·have:=Zf hj a;omega
 ·subst a;exact ⟨rfl,I⟩
 ·have:=Zf hj' a;omega
theorem Zgq {f:Nat->Int} (hl:m.length=R*C) (hi:i<R) (hj:j<C):cell (Zz f (i*C) C m) C i' j=if i'=i then f j else cell m C i' j:=by
 unfold cell;have a:i*C+C<=m.length:=Bk
 rw[ZaV a];by_cases e:i'=i
 ·subst e;rw[if_pos rfl,if_pos I];congr 1;omega
 ·rw[if_neg e,if_neg];rintro ⟨c,d⟩;obtain ⟨b,_⟩:=Zb5 (i:=i') (i':=i) (j':=i'*C+j-i*C) hj I I;exact e b
def ZbD (m:List Int) (C i p:Nat) (t:Int) (k:Nat):Int:=cell m C i k+cell m C p k*t
def Zae (m:List Int) (C i p:Nat) (t:Int):Bool:=(JN C).all fun k=>Zi (cell m C p k*t)&&Zi (ZbD m C i p t k)
def addR (m:List Int) (C i p:Nat) (t:Int):List Int:=Zz (ZbD m C i p t) (i*C) C m
def ZdT (m:List Int) (C i:Nat):List Int:=Zz (fun k=> -cell m C i k) (i*C) C m
def swN (m:List Int) (C p t:Nat):Nat->List Int
 |0=>m
 |k+1=>((swN m C p t k).set (p*C+k) (cell m C t k)).set (t*C+k) (cell m C p k)
def swR (m:List Int) (C p t:Nat):List Int:=swN m C p t C
theorem ZbA (m:List Int) (C p t:Nat): ∀ k,(swN m C p t k).length=m.length
 |0=>rfl
 |k+1=>by simp[swN,ZbA m C p t k]
theorem ZcP:Zae m C i p t=true↔ ∀ k,k<C->Zi (cell m C p k*t)=true/\Zi (ZbD m C i p t k)=true:=by
 unfold Zae;exact Ic
theorem ZdF (h:NumL m) (hok:Zae m C i p t=true):NumL (addR m C i p t):=fun x a=>by
 rcases Zee a with a|⟨k,b,rfl⟩
 ·exact h x a
 ·exact ZB.1 (ZcP.1 hok k b).2
theorem Zh6 (h:NumL m):NumL (ZdT m C i):=fun x a=>by
 rcases Zee a with a|⟨k,b,rfl⟩
 ·exact h x a
 ·have:=Zk h C i k;omega
theorem Zda {m:List Int} {C p t:Nat} (h:NumL m): ∀ k,NumL (swN m C p t k)
 |0=>h
 |k+1=>fun x hx=>by
  rcases Lf hx with hx|rfl
  ·rcases Lf hx with hx|rfl
   ·exact Zda h k x hx
   ·exact Zk h C t k
  ·exact Zk h C p k
theorem Zbt (hl:m.length=R*C) (hi:i<R) (hj:j<C):cell (addR m C i p t) C i' j=if i'=i then cell m C i j+cell m C p j*t else cell m C i' j:=Zgq hl hi hj
theorem Zi7 (hl:m.length=R*C) (hi:i<R) (hj:j<C):cell (ZdT m C i) C i' j=if i'=i then -cell m C i j else cell m C i' j:=Zgq hl hi hj
theorem ZeW {m:List Int} {C R p t:Nat} (hl:m.length=R*C) (hp:p<R) (ht:t<R) (hne:p≠t): ∀ k,k<=C-> ∀ i j,j<C->(swN m C p t k).getD (i*C+j) 0=if i=p/\j<k then cell m C t j else if i=t/\j<k then cell m C p j else cell m C i j
 |0,_,i,j,_=>by simp[swN,cell]
 |k+1,hk,i,j,hj=>by
  have hlen:(swN m C p t k).length=R*C:=by rw[ZbA,hl]
  have h1:p*C+k<R*C:=Zf I hp;have h2:t*C+k<R*C:=Zf I ht;simp only[swN];rw[Zes (by rw[List.length_set];omega),Zes I,ZeW hl hp ht hne k I i j hj];by_cases e1:i*C+j=t*C+k
  ·obtain ⟨rfl,rfl⟩:=Zb5 hj I e1;rw[if_pos rfl,if_neg I,if_pos I]
  ·rw[if_neg e1];by_cases e2:i*C+j=p*C+k
   ·obtain ⟨rfl,rfl⟩:=Zb5 hj I e2;rw[if_pos rfl,if_pos I]
   ·rw[if_neg e2];by_cases e3:i=p
    ·subst e3;have hk2:j<k+1↔j<k:=(by have:j≠k:=fun e=>e2 (by rw[e]);omega);simp only[hk2]
    ·simp only[e3,false_and,if_false];by_cases e5:i=t
     ·subst e5;have hk2:j<k+1↔j<k:=(by have:j≠k:=fun e=>e1 (by rw[e]);omega);simp only[hk2]
     ·simp only[e5,false_and,if_false]
theorem Zej {t:Nat} (hl:m.length=R*C) (hp:p<R) (ht:t<R) (hne:p≠t) (hj:j<C):cell (swR m C p t) C i j=if i=p then cell m C t j else if i=t then cell m C p j else cell m C i j:=by
 have:=ZeW hl hp ht hne C (JM _) i j hj;unfold cell swR at *;rw[this];by_cases e:i=p
 ·rw[if_pos ⟨e,hj⟩,if_pos e]
 ·rw[if_neg I,if_neg e];by_cases a:i=t
  ·rw[if_pos ⟨a,hj⟩,if_pos a]
  ·rw[if_neg I,if_neg a]
abbrev HS:=List Int×List Int
variable {s s':HS}
def Zde (C R i p:Nat) (t:Int) (s:HS):Option HS:=if Zae s.1 C i p t&&Zae s.2 R i p t then some (addR s.1 C i p t,addR s.2 R i p t) else none
def sw2 (C R p t:Nat) (s:HS):HS:=(swR s.1 C p t,swR s.2 R p t)
def ZeQ (C R t:Nat) (s:HS):HS:=(ZdT s.1 C t,ZdT s.2 R t)
structure Hs (C R:Nat) (s:HS):Prop where
 la:s.1.length=R*C
 lu:s.2.length=R*R
 na:NumL s.1
 nu:NumL s.2
theorem Zha (h:Hs C R s) (he:Zde C R i p t s=some s'):Hs C R s'/\s'=(addR s.1 C i p t,addR s.2 R i p t):=by
 unfold Zde at he;split at he
 ·rename_i a;rw[JQ] at a;obtain rfl:=JJ he;exact ⟨⟨by simp[addR,ZM,h.la],by simp[addR,ZM,h.lu],ZdF h.na a.1,ZdF h.nu a.2⟩,rfl⟩
 ·cases he
theorem ZnP {t:Nat} (h:Hs C R s):Hs C R (sw2 C R p t s):=⟨by simp[sw2,swR,ZbA,h.la],by simp[sw2,swR,ZbA,h.lu],Zda h.na _,Zda h.nu _⟩
theorem ZlI {t:Nat} (h:Hs C R s):Hs C R (ZeQ C R t s):=⟨by simp[ZeQ,ZdT,ZM,h.la],by simp[ZeQ,ZdT,ZM,h.lu],Zh6 h.na,Zh6 h.nu⟩
def Zr (m:List Int) (C j t:Nat):Nat->Int
 |0=> -1
 |n+1=>if cell m C (t+n) j≠0/\(Zr m C j t n<0\/(cell m C (t+n) j).natAbs<(cell m C (Zr m C j t n).toNat j).natAbs) then ((t+n:Nat):Int) else Zr m C j t n
def ZaW (m:List Int) (C R j p t:Nat):Bool:=(JN (R-t)).all fun d=>decide (t+d=p)||decide (cell m C (t+d) j=0)
theorem Zc6 (m:List Int) (C j t:Nat): ∀ n,(Zr m C j t n= -1/\ ∀ d,d<n->cell m C (t+d) j=0)\/
  ∃ p:Nat,Zr m C j t n=p/\t<=p/\p<t+n/\cell m C p j≠0/\ ∀ d,d<n->cell m C (t+d) j≠0->(cell m C p j).natAbs<=(cell m C (t+d) j).natAbs
 |0=> .inl ⟨rfl,fun d h=>I⟩
 |n+1=>by
  have ih:=Zc6 m C j t n;simp only[Zr];by_cases hc:cell m C (t+n) j=0
  ·rw[if_neg (by simp[hc])];rcases ih with ⟨h1,h2⟩|⟨p,h1,h2,h3,h4,h5⟩
   ·exact .inl ⟨h1,fun d hd=>by
     by_cases e:d=n
     ·subst e;exact hc
     ·exact h2 d I⟩
   ·exact .inr ⟨p,h1,h2,I,h4,fun d hd hne=>by
     by_cases e:d=n
     ·subst e;exact (hne hc).elim
     ·exact h5 d I hne⟩
  ·rcases ih with ⟨h1,h2⟩|⟨p,h1,h2,h3,h4,h5⟩
   ·rw[if_pos ⟨hc, .inl I⟩];exact .inr ⟨t+n,rfl,I,I,hc,fun d hd hne=>by
     by_cases e:d=n
     ·subst e;exact JE
     ·exact (hne (h2 d I)).elim⟩
   ·rw[h1];simp only[K4];by_cases hlt:(cell m C (t+n) j).natAbs<(cell m C p j).natAbs
    ·rw[if_pos ⟨hc, .inr hlt⟩];exact .inr ⟨t+n,rfl,I,I,hc,fun d hd hne=>by
      by_cases e:d=n
      ·subst e;exact JE
      ·have:=h5 d I hne;omega⟩
    ·rw[if_neg EQ];exact .inr ⟨p,rfl,h2,I,h4,fun d hd hne=>by
      by_cases e:d=n
      ·subst e;omega
      ·exact h5 d I hne⟩
theorem Zey {t:Nat}:ZaW m C R j p t=true↔ ∀ i,t<=i->i<R->i≠p->cell m C i j=0:=by
 unfold ZaW;rw[List.all_eq_true];constructor
 ·intro h i c f a;have:=h (i-t) (JW.2 I);rw[LW,decide_eq_true_eq,decide_eq_true_eq,show t+(i-t)=i by omega] at this;exact this.resolve_left a
 ·intro h d b;rw[LW,decide_eq_true_eq,decide_eq_true_eq];have:=JW.1 b;by_cases e:t+d=p
  ·exact .inl e
  ·exact .inr (h _ I I e)
structure Piv (m:List Int) (C R j p t:Nat):Prop where
 lo:t<=p
 hi:p<R
 ne:cell m C p j≠0
 least: ∀ i,t<=i->i<R->cell m C i j≠0->(cell m C p j).natAbs<=(cell m C i j).natAbs
theorem Piv.of {t:Nat} (ht:t<=R) (h:0<=Zr m C j t (R-t)):Piv m C R j (Zr m C j t (R-t)).toNat t:=by
 rcases Zc6 m C j t (R-t) with ⟨b,_⟩|⟨p,b,c,f,d,e⟩
 ·omega
 ·rw[b,K4];exact ⟨c,I,d,fun i g k a=>by
   have:=e (i-t) I;rw[show t+(i-t)=i by omega] at this;exact this a⟩
def pass (C R j p:Nat):Nat->Nat->HS->Option HS
 |0,_,s=>some s
 |n+1,i,s=>if i≠p/\cell s.1 C i j≠0 then (Zde C R i p (-(cell s.1 C i j/cell s.1 C p j)) s).bind (pass C R j p n (i+1)) else pass C R j p n (i+1) s
theorem Ziu {C R j p:Nat} (hj:j<C) (hp:p<R): ∀ {n i:Nat} {s s':HS},Hs C R s->i+n<=R->cell s.1 C p j≠0->pass C R j p n i s=some s'->
  Hs C R s'/\(∀ k,k<C->cell s'.1 C p k=cell s.1 C p k)/\(∀ i',i<=i'->i'<i+n->i'≠p->0<=cell s'.1 C i' j/\(cell s'.1 C i' j).natAbs<(cell s.1 C p j).natAbs)/\(∀ i' k,k<C->i'<i\/i+n<=i'->cell s'.1 C i' k=cell s.1 C i' k)/\
  (∀ k,k<C->(∀ i',i<=i'->i'<i+n->cell s.1 C i' k=0)->cell s.1 C p k=0-> ∀ i',i<=i'->i'<i+n->cell s'.1 C i' k=0)
 |0,i,s,s',h,_,_,he=>by obtain rfl:=JJ he;exact ⟨h,fun _ _=>rfl,fun _ _ _=>I,fun _ _ _ _=>rfl,fun _ _ _ _ _ _ _=>I⟩
 |n+1,i,s,s',h,hn,hne,he=>by
  simp only[pass] at he;by_cases hc:i≠p/\cell s.1 C i j≠0
  ·rw[if_pos hc] at he;cases ha:Zde C R i p (-(cell s.1 C i j/cell s.1 C p j)) s with
   |none=>rw[ha] at he;cases he
   |some s1=>
    rw[ha] at he;obtain ⟨h1,e1⟩:=Zha h ha;have hcell: ∀ i' k,k<C->cell s1.1 C i' k=if i'=i then cell s.1 C i k+cell s.1 C p k*(-(cell s.1 C i j/cell s.1 C p j)) else cell s.1 C i' k:=fun i' k hk=>DC;have hpk: ∀ k,k<C->cell s1.1 C p k=cell s.1 C p k:=fun k hk=>(by rw[hcell p k hk,if_neg (Ne.symm hc.1)]);obtain ⟨g1,g2,g3,g4,g5⟩:=Ziu hj hp h1 I (by rw[hpk j hj];exact hne) (show pass C R j p n (i+1) s1=some s' from he);refine ⟨g1,fun k hk=>by rw[g2 k hk,hpk k hk],fun i' h2 h3 h4=> ?_,fun i' k hk h2=> ?_,fun k hk hz hpz i' h2 h3=> ?_⟩
    ·by_cases e:i'=i
     ·subst e;rw[g4 i' j hj (.inl I),hcell i' j hj,if_pos rfl];have e2:cell s.1 C i' j+cell s.1 C p j*(-(cell s.1 C i' j/cell s.1 C p j))=cell s.1 C i' j%cell s.1 C p j:=(by have:=Int.emod_def (cell s.1 C i' j) (cell s.1 C p j);rw[Int.mul_neg];omega);rw[e2];have h5:=LU (cell s.1 C i' j) hne;have h6:=Mt (cell s.1 C i' j) hne;omega
     ·have:=g3 i' I I h4;rw[hpk j hj] at this;exact this
    ·rw[g4 i' k hk I,hcell i' k hk,if_neg I]
    ·by_cases e:i'=i
     ·subst e;rw[g4 i' k hk (.inl I),hcell i' k hk,if_pos rfl,hz i' I I,hpz];simp
     ·exact g5 k hk (fun q h4 h5=>by rw[hcell q k hk,if_neg I];exact hz q I I) (by rw[hpk k hk];exact hpz) i' I I
  ·rw[if_neg hc] at he;obtain ⟨g1,g2,g3,g4,g5⟩:=Ziu hj hp h I hne he;refine ⟨g1,g2,fun i' h2 h3 h4=> ?_,fun i' k hk h2=>g4 i' k hk I,fun k hk hz hpz i' h2 h3=> ?_⟩
   ·by_cases e:i'=i
    ·subst e;have h0:cell s.1 C i' j=0:=by
      rcases Mg (cell s.1 C i' j=0) with h0|h0
      ·exact h0
      ·exact (hc ⟨h4,h0⟩).elim
     rw[g4 i' j hj (.inl I),h0];have:(cell s.1 C p j).natAbs≠0:=I;exact ⟨I,Ψ⟩
    ·exact g3 i' I I h4
   ·by_cases e:i'=i
    ·subst e;rw[g4 i' k hk (.inl I)];exact hz i' I I
    ·exact g5 k hk (fun q h4 h5=>hz q I I) hpz i' I I
def mu (m:List Int) (C R j p t:Nat):Nat:=(cell m C p j).natAbs+(if ZaW m C R j p t then 0 else 1)
def Zfa (C R j t:Nat):Nat->HS->Nat->Option (HS×Nat)
 |0,_,_=>none
 |n+1,s,p=>if ZaW s.1 C R j p t then some (s,p) else (pass C R j p (R-t) t s).bind fun s'=>Zfa C R j t n s' (Zr s'.1 C j t (R-t)).toNat
theorem Zgb {t:Nat} (hj:j<C) (h:Hs C R s) (hv:Piv s.1 C R j p t) (ha:ZaW s.1 C R j p t=false) (he:pass C R j p (R-t) t s=some s'):
  Hs C R s'/\0<=Zr s'.1 C j t (R-t)/\Piv s'.1 C R j (Zr s'.1 C j t (R-t)).toNat t/\mu s'.1 C R j (Zr s'.1 C j t (R-t)).toNat t<mu s.1 C R j p t/\
  (∀ i' k,k<C->i'<t->cell s'.1 C i' k=cell s.1 C i' k)/\(∀ k,k<C->(∀ i',t<=i'->i'<R->cell s.1 C i' k=0)-> ∀ i',t<=i'->i'<R->cell s'.1 C i' k=0):=by
 have f:=hv.lo;have g:=hv.hi;obtain ⟨A,l,v,B,D⟩:=Ziu hj hv.hi h I hv.ne he;have b:cell s'.1 C p j≠0:=by rw[l j hj];exact hv.ne
 have w:0<=Zr s'.1 C j t (R-t):=by
  rcases Zc6 s'.1 C j t (R-t) with ⟨_,c⟩|⟨q,n,_⟩
  ·have:=c (p-t) I;rw[show t+(p-t)=p by omega] at this;exact (b this).elim
  ·omega
 have a:=Piv.of (m:=s'.1) (C:=C) (R:=R) (j:=j) (t:=t) I w;generalize (Zr s'.1 C j t (R-t)).toNat=q at *;refine ⟨A,w,a, ?_,fun i' k o E=>B i' k o (.inl E),fun k o x i' c y=>D k o (fun q z d=>x q z I) (x p f g) i' c I⟩;unfold mu;rw[ha];simp only[LB,if_false];by_cases e:q=p
 ·subst e;have r:ZaW s'.1 C R j q t=true:=Zey.2 fun i n c y=>by
   have z:=(v i n I y).2;rcases Mg (cell s'.1 C i j=0) with d|d
   ·exact d
   ·have F:=a.least i n c d;rw[l j hj] at F;omega
  rw[r,l j hj];simp
 ·have:=(v q a.lo (by have:=a.hi;omega) e).2;split<;>omega
theorem ZmB {C R j t:Nat} (hj:j<C): ∀ {n m:Nat} {s:HS} {p:Nat},Hs C R s->Piv s.1 C R j p t->mu s.1 C R j p t<n->mu s.1 C R j p t<m->Zfa C R j t n s p=Zfa C R j t m s p
 |0,_,_,_,_,_,h,_=>I
 |_,0,_,_,_,_,_,h=>I
 |n+1,m+1,s,p,hs,hv,hn,hm=>by
  simp only[Zfa];cases ha:ZaW s.1 C R j p t with
  |true=>rfl
  |false=>
   simp only[LB,if_false];cases he:pass C R j p (R-t) t s with
   |none=>rfl
   |some s'=>obtain ⟨g1,_,g3,g4,_⟩:=Zgb hj hs hv ha he;exact ZmB hj g1 g3 I I
def Zeg (C R j t:Nat) (s:HS) (p:Nat):Option (HS×Nat):=Zfa C R j t (mu s.1 C R j p t+1) s p
theorem Zmp {t:Nat} (ha:ZaW s.1 C R j p t=true):Zeg C R j t s p=some (s,p):=by
 unfold Zeg;simp only[Zfa,ha,if_true]
theorem Zmr {t:Nat} (ha:ZaW s.1 C R j p t=false) (he:pass C R j p (R-t) t s=none):Zeg C R j t s p=none:=by
 unfold Zeg;simp only[Zfa,ha,he];rfl
theorem ZmH {t:Nat} (hj:j<C) (h:Hs C R s) (hv:Piv s.1 C R j p t) (ha:ZaW s.1 C R j p t=false) (he:pass C R j p (R-t) t s=some s'):Zeg C R j t s p=Zeg C R j t s' (Zr s'.1 C j t (R-t)).toNat:=by
 obtain ⟨a,_,b,c,_⟩:=Zgb hj h hv ha he;unfold Zeg;rw[show Zfa C R j t (mu s.1 C R j p t+1) s p=Zfa C R j t (mu s.1 C R j p t) s' (Zr s'.1 C j t (R-t)).toNat by simp only[Zfa,ha,he];rfl];exact ZmB hj a b c I
def red (C R j t:Nat):Nat->Nat->HS->Option HS
 |0,_,s=>some s
 |n+1,i,s=>(Zde C R i t (-(cell s.1 C i j/cell s.1 C t j)) s).bind (red C R j t n (i+1))
def Zcy (C R p t:Nat) (s:HS):HS:=if p=t then s else sw2 C R p t s
def Zdc (C R j t:Nat) (s:HS):HS:=if cell s.1 C t j<0 then ZeQ C R t s else s
def ZiR (C R j t p:Nat) (s:HS):Option HS:=red C R j t t 0 (Zdc C R j t (Zcy C R p t s))
def ZW (C R:Nat):Nat->Nat->Nat->HS->Option HS
 |0,_,_,s=>some s
 |n+1,j,t,s=>if t<R then
   (if Zr s.1 C j t (R - t) < 0 then ZW C R n (j + 1) t s
    else (Zeg C R j t s (Zr s.1 C j t (R-t)).toNat).bind fun r=>(ZiR C R j t r.2 r.1).bind (ZW C R n (j+1) (t+1)))
  else some s
theorem ZlZ {n t:Nat} (h:R<=t):ZW C R n j t s=some s:=by
 cases n with
 |zero=>rfl
 |succ n=>simp only[ZW];rw[if_neg I]
def idL (n:Nat):List Int:=(JN n).foldl (fun l i=>l.set (i*n+i) 1) (List.replicate (n*n) 0)
def ZbP (m:List Int) (R C:Nat):Option HS:=ZW C R C 0 0 (m,idL R)
def ZI (m:List Int) (C p q i:Nat):Nat->List Int->List Int
 |0,l=>l
 |j+1,l=>if i≠p/\j≠q then ZI m C p q i j l++[cell m C i j] else ZI m C p q i j l
def Zt (m:List Int) (C p q:Nat):Nat->List Int
 |0=>[]
 |i+1=>ZI m C p q i C (Zt m C p q i)
theorem Zhx {m:List Int} {C p q i:Nat} (hi:i≠p): ∀ {j:Nat} {l:List Int},(ZI m C p q i j l).length=l.length+(if q<j then j-1 else j)
 |0,l=>by simp[ZI]
 |j+1,l=>by
  simp only[ZI];by_cases e:j=q
  ·rw[if_neg I,Zhx hi,if_neg I,if_pos I];omega
  ·rw[if_pos ⟨hi,e⟩,List.length_append,Zhx hi];by_cases e2:q<j
   ·rw[if_pos e2,if_pos I];simp;omega
   ·rw[if_neg e2,if_neg I];simp;omega
theorem ZjC {m:List Int} {C p q:Nat}: ∀ {j:Nat} {l:List Int},ZI m C p q p j l=l
 |0,_=>rfl
 |j+1,l=>by simp only[ZI];rw[if_neg I];exact ZjC
theorem ZeA {m:List Int} {C p q:Nat} (hq:q<C): ∀ {i:Nat},(Zt m C p q i).length=(if p<i then i-1 else i)*(C-1)
 |0=>by simp[Zt]
 |i+1=>by
  simp only[Zt];by_cases e:i=p
  ·subst e;rw[ZjC,ZeA hq,if_neg I,if_pos I];rfl
  ·rw[Zhx e,ZeA hq,if_pos hq];by_cases e2:p<i
   ·rw[if_pos e2,if_pos I];have:i+1-1=(i-1)+1:=I;rw[this,Ki,LC]
   ·rw[if_neg e2,if_neg I,Ki,LC]
theorem Zid {m:List Int} {C p q i:Nat} (hm:NumL m): ∀ {j:Nat} {l:List Int},NumL l->NumL (ZI m C p q i j l)
 |0,_,h=>h
 |j+1,l,h=>by
  simp only[ZI];split
  ·intro x hx;rcases List.mem_append.1 hx with h1|h1
   ·exact Zid hm h x h1
   ·rw[List.mem_singleton.1 h1];exact Zk hm C i j
  ·exact Zid hm h
theorem ZdO {m:List Int} {C p q:Nat} (hm:NumL m): ∀ {i:Nat},NumL (Zt m C p q i)
 |0=>fun x hx=>AO
 |i+1=>Zid hm (ZdO hm)
def Zcw (f:List Int->Option Int) (m:List Int) (n:Nat):Nat->Option Int
 |0=>some 0
 |k+1=>(Zcw f m n k).bind fun s=>if m.getD k 0=0 then some s else (f (Zt m n 0 k n)).map fun d=>s+(if k%2=1 then -m.getD k 0 else m.getD k 0)*d
def Zf3 (s:Int):Option Int:=if -400000000<=s/\s<=400000000 then some s else none
def Zad:Nat->List Int->Option Int
 |0,_=>some 1
 |n+1,m=>(Zcw (Zad n) m (n+1) (n+1)).bind Zf3
theorem Zoa {s:Int} (h:Zf3 s=some d):d=s/\ -400000000<=d/\d<=400000000:=by
 unfold Zf3 at h;split at h
 ·rename_i a;have:=JJ h;omega
 ·cases h
theorem Zb0: ∀ {n:Nat} {m:List Int} {d:Int},Zad n m=some d-> -400000000<=d/\d<=400000000
 |0,m,d,h=>by have:=JJ (show some (1:Int)=some d from h);omega
 |n+1,m,d,h=>by
  simp only[Zad] at h;cases hs:Zcw (Zad n) m (n+1) (n+1) with
  |none=>rw[hs] at h;cases h
  |some s=>rw[hs] at h;exact (Zoa h).2
theorem Zbk {a b p q:Int} (ha: -p<=a/\a<=p) (hb: -q<=b/\b<=q): -(p*q)<=a*b/\a*b<=p*q:=by
 have c:a.natAbs<=p.natAbs:=I
 have d:b.natAbs<=q.natAbs:=I
 have e:=Nat.mul_le_mul c d;rw[←NJ, ←NJ] at e;have f:0<=p*q:=Int.mul_nonneg I I;omega
theorem ZlE {n:Nat} {m:List Int} (hm:NumL m): ∀ {k:Nat} {s:Int},Zcw (Zad n) m (n+1) k=some s-> -(160000000000000000*k)<=s/\s<=160000000000000000*k
 |0,s,h=>by have:=JJ (show some (0:Int)=some s from h);omega
 |k+1,s,h=>by
  simp only[Zcw] at h;cases hs:Zcw (Zad n) m (n+1) k with
  |none=>rw[hs] at h;cases h
  |some s0=>
   have ih:=ZlE hm hs;rw[hs,Kb] at h;by_cases e:m.getD k 0=0
   ·rw[if_pos e] at h;have:=JJ h;omega
   ·rw[if_neg e] at h;cases hd:Zad n (Zt m (n+1) 0 k (n+1)) with
    |none=>rw[hd] at h;cases h
    |some d=>rw[hd,Option.map_some] at h;have h1:=JJ h;have h2:=Zb0 hd;have h3: -400000000<=m.getD k 0/\m.getD k 0<=400000000:=hm.getD k;have h4: -400000000<=(if k%2=1 then -m.getD k 0 else m.getD k 0)/\(if k%2=1 then -m.getD k 0 else m.getD k 0)<=400000000:=CK;have h5:=Zbk h4 h2;omega
theorem ZpU {f:List Int->Option Int} {n:Nat} (h:Zcw f m n k=none) (hj:k<=j):Zcw f m n j=none:=by
 induction j with
 |zero=>
  obtain rfl:k=0:=I
  exact h
 |succ j a=>
  by_cases e:k=j+1
  ·subst e;exact h
  ·simp only[Zcw];rw[a I];rfl
abbrev Rt:=Int×Int
variable {r:Rt}
def isR (r:Rt):Bool:=decide (1<=r.2/\r.2<=400000000)&&(Zi r.1&&decide (JS r.1 r.2=1))
def rt0:Rt:=(0,0)
def sgD (n d:Int):Int:=if d<0 then -((JS n d:Nat):Int) else ((JS n d:Nat):Int)
def Zef (n d:Int):Rt:=if isR (n.tdiv (sgD n d),d.tdiv (sgD n d))=true then (n.tdiv (sgD n d),d.tdiv (sgD n d)) else rt0
def Za1 (a b:Rt):Rt:=if isR a&&isR b then Zef (a.1*b.2+b.1*a.2) (a.2*b.2) else rt0
def ZaM (a:Rt):Rt:=if isR a then (-a.1,a.2) else rt0
def ZA (a b:Rt):Rt:=if isR a&&isR b then Zef (a.1*b.1) (a.2*b.2) else rt0
def ZcW (a b:Rt):Rt:=if isR a&&(isR b&& !decide (b.1=0)) then Zef (a.1*b.2) (a.2*b.1) else rt0
def ZV (a b:Rt):Int:=if isR a&&isR b then (if a.1*b.2<b.1*a.2 then -1 else if b.1*a.2<a.1*b.2 then 1 else 0) else 2
def Zap (a:Rt):Int:=if isR a then (2*a.1+a.2)/(2*a.2) else 0
theorem ZcM:isR r=true↔(1<=r.2/\r.2<=400000000)/\(-400000000<=r.1/\r.1<=400000000)/\JS r.1 r.2=1:=by
 unfold isR;rw[JQ,JQ,decide_eq_true_eq,decide_eq_true_eq,ZB]
def RtN (r:Rt):Prop:=(-400000000<=r.1/\r.1<=400000000)/\(0<=r.2/\r.2<=400000000)
theorem RtN.of (h:isR r=true):RtN r:=by
 obtain ⟨a,b, -⟩:=ZcM.1 h;exact ⟨b,I,a.2⟩
theorem RtN.zero:RtN rt0:=by unfold RtN rt0;simp
theorem Zp2 (a:Rt): -400000000<=Zap a/\Zap a<=400000000:=by
 unfold Zap;split
 ·rename_i h;obtain ⟨b,c, -⟩:=ZcM.1 h;constructor
  ·refine Oe I ?_;have: -400000000*(2*a.2)<= -400000000*2:=I;omega
  ·refine Int.lt_add_one_iff.1 (Int.ediv_lt_of_lt_mul I ?_);omega
 ·omega
def rAt (l:List Rt) (k:Nat):Rt:=l.getD k rt0
def ZcH (mu:List (List Rt)) (s row:List Rt) (i j:Nat):Nat->Rt->Rt
 |0,r=>r
 |k+1,r=>Za1 (ZcH mu s row i j k r) (ZaM (ZA (ZA (rAt row k) (if j=i then rAt row k else rAt (mu.getD j []) k)) (rAt s k)))
def ZbB (g:List Int) (n:Nat) (mu:List (List Rt)) (s:List Rt) (i:Nat):Nat->Option (List Rt)
 |0=>some []
 |j+1=>(ZbB g n mu s i j).bind fun row=>if isR (ZcH mu s row i j j (cell g n i j,1)) then some (row++[ZcW (ZcH mu s row i j j (cell g n i j,1)) (rAt s j)]) else none
def Zas (g:List Int) (n:Nat):Nat->Option (List (List Rt)×List Rt)
 |0=>some ([],[])
 |i+1=>(Zas g n i).bind fun o=>(ZbB g n o.1 o.2 i i).bind fun row=>
   if isR (ZcH o.1 o.2 row i i i (cell g n i i,1))&&decide (0<(ZcH o.1 o.2 row i i i (cell g n i i,1)).1) then some (o.1++[row],o.2++[ZcH o.1 o.2 row i i i (cell g n i i,1)]) else none
theorem Zhy {g:List Int} {n i:Nat} {mu:List (List Rt)} {s:List Rt}: ∀ {j:Nat} {row:List Rt},ZbB g n mu s i j=some row->row.length=j
 |0,row,h=>by rw[←JJ (show some []=some row from h)];rfl
 |j+1,row,h=>by
  simp only[ZbB] at h;cases h1:ZbB g n mu s i j with
  |none=>rw[h1] at h;cases h
  |some r0=>
   rw[h1,Kb] at h;split at h
   ·rw[←JJ h];simp[Zhy h1]
   ·cases h
theorem Zd7 {g:List Int} {n:Nat}: ∀ {i:Nat} {o:List (List Rt)×List Rt},Zas g n i=some o->o.1.length=i/\o.2.length=i/\ ∀ (k:Nat) (row:List Rt),o.1[k]? =some row->row.length=k
 |0,o,h=>by rw[←JJ (show some ([],[])=some o from h)];exact ⟨rfl,rfl,fun k row hk=>by simp at hk⟩
 |i+1,o,h=>by
  simp only[Zas] at h;cases h1:Zas g n i with
  |none=>rw[h1] at h;cases h
  |some o0=>
   rw[h1,Kb] at h;cases h2:ZbB g n o0.1 o0.2 i i with
   |none=>rw[h2] at h;cases h
   |some row=>
    rw[h2,Kb] at h;split at h
    ·obtain ⟨a1,a2,a3⟩:=Zd7 h1;rw[←JJ h];refine ⟨by simp[a1],by simp[a2],fun k r hk=> ?_⟩;by_cases e:k<i
     ·rw[List.getElem?_append_left I] at hk;exact a3 k r hk
     ·rw[List.getElem?_append_right I] at hk;have e2:k=i:=by
       rcases Nat.eq_zero_or_pos (k-i) with h0|h0
       ·omega
       ·rw[K3 Ψ] at hk;cases hk
      subst e2;simp[a1] at hk;rw[←hk];exact Zhy h2
    ·cases h
def ZS:Int:= -4611686018427387904
def Zei (n:Int):Int:=if Zi n=true then n else ZS
def ZbX (a b:Int):Int:=if a=ZS\/b=ZS then ZS else Zei (a+b)
def ZaT (a b:Int):Int:=if a=ZS\/b=ZS then ZS else Zei (a*b)
def NumS (x:Int):Prop:=(-400000000<=x/\x<=400000000)\/x=ZS
def NumBL (l:List Int):Prop:= ∀ x∈l,NumS x
theorem NumS.i64 (h:NumS x):I64 x:=by unfold NumS ZS at h;unfold I64;omega
theorem NumL.bl (h:NumL l):NumBL l:=fun x a=> .inl (h x a)
theorem NumBL.getD (h:NumBL l) (i:Nat):NumS (l.getD i 0):=by
 rcases Nat.lt_or_ge i l.length with hi|hi
 ·have e:l.getD i 0=l[i]:=CL
  rw[e];exact h _ (K7 hi)
 ·have e:l.getD i 0=0:=by simp[KJ,K3 hi]
  rw[e];exact .inl I
theorem ZsF (n:Int):NumS (Zei n):=by
 unfold Zei;split
 ·rename_i h;exact .inl (ZB.1 h)
 ·exact .inr rfl
theorem Zev (h:Zi n=true):Zei n=n:=by unfold Zei;rw[if_pos h]
theorem Zge (h:Zi n=false):Zei n=ZS:=by unfold Zei;rw[if_neg Ey]
theorem Zaz (h: -400000000<=x/\x<=400000000):x≠ZS:=by unfold ZS;omega
theorem ZsO (a b:Int):NumS (ZbX a b):=by
 unfold ZbX;split
 ·exact .inr rfl
 ·exact ZsF _
theorem Zsd (a b:Int):NumS (ZaT a b):=by
 unfold ZaT;split
 ·exact .inr rfl
 ·exact ZsF _
theorem ZnG (b:Int):ZbX ZS b=ZS:=by unfold ZbX;rw[if_pos (.inl rfl)]
def ZcB (m:List Int) (C i p:Nat) (t:Int) (k:Nat):Int:=ZbX (cell m C i k) (ZaT (cell m C p k) t)
def Za3 (m:List Int) (C i p:Nat) (t:Int):List Int:=Zz (ZcB m C i p t) (i*C) C m
theorem Zt6 (h:NumL m) (ht: -400000000<=t/\t<=400000000) (h1:Zi (cell m C p k*t)=true) (h2:Zi (ZbD m C i p t k)=true):ZcB m C i p t k=ZbD m C i p t k:=by
 unfold ZcB;have e:ZaT (cell m C p k) t=cell m C p k*t:=by unfold ZaT;rw[if_neg EX,Zev h1]
 rw[e];unfold ZbX;rw[if_neg (by rintro (e|e);exact Zaz (Zk h C i k) e;exact Zaz (ZB.1 h1) e)];exact Zev h2
theorem ZsX (h:NumL m) (ht: -400000000<=t/\t<=400000000) (h1: ¬ (Zi (cell m C p k*t)=true/\Zi (ZbD m C i p t k)=true)):ZcB m C i p t k=ZS:=by
 unfold ZcB;cases a:Zi (cell m C p k*t) with
 |false=>
  have e:ZaT (cell m C p k) t=ZS:=by
   unfold ZaT;split
   ·rfl
   ·exact Zge a
  rw[e];unfold ZbX;rw[if_pos (.inr rfl)]
 |true=>
  have e:ZaT (cell m C p k) t=cell m C p k*t:=by unfold ZaT;rw[if_neg EX,Zev a]
  rw[e];have b:Zi (ZbD m C i p t k)=false:=by
   cases b:Zi (ZbD m C i p t k) with
   |false=>rfl
   |true=>exact (h1 ⟨a,b⟩).elim
  unfold ZbX;split
  ·rfl
  ·exact Zge b
theorem ZkK {f g:Nat->Int} {o:Nat}: ∀ {k:Nat} {m:List Int},(∀ i,i<k->f i=g i)->Zz f o k m=Zz g o k m
 |0,_,_=>rfl
 |k+1,m,h=>by simp only[Zz];rw[ZkK (fun i hi=>h i I),h k I]
theorem Zhv (h:NumL m) (ht: -400000000<=t/\t<=400000000) (hok:Zae m C i p t=true):Za3 m C i p t=addR m C i p t:=
 ZkK fun k a=>Zt6 h ht (ZcP.1 hok k a).1 (ZcP.1 hok k a).2
theorem ZcJ (hl:m.length=R*C) (hi:i<R):i*C+C<=m.length:=by
 exact I4
theorem ZjX (h:i<l.length):l.getD i 0∈l:=by
 have e:l.getD i 0=l[i]:=by simp[KJ,JR h]
 rw[e];exact K7 h
theorem Zhz (hl:m.length=R*C) (hi:i<R) (h:NumL m) (ht: -400000000<=t/\t<=400000000) (hok:Zae m C i p t=false):ZS∈Za3 m C i p t:=by
 obtain ⟨k,d,a⟩: ∃ k,k<C/\ ¬ (Zi (cell m C p k*t)=true/\Zi (ZbD m C i p t k)=true):=by
  rcases Mg (∃ k,k<C/\ ¬ (Zi (cell m C p k*t)=true/\Zi (ZbD m C i p t k)=true)) with b|b
  ·exact b
  ·have:Zae m C i p t=true:=ZcP.2 fun k d=>LV fun f=>b ⟨k,d,f⟩;rw[this] at hok;cases hok
 have c:=ZcJ hl hi;have e:(Za3 m C i p t).getD (i*C+k) 0=ZS:=by unfold Za3;rw[ZaV c,if_pos I,show i*C+k-i*C=k by omega];exact ZsX h ht a
 rw[←e];exact ZjX (by unfold Za3;rw[ZM];omega)
theorem ZfT (hl:m.length=R*C) (hi:i<R) (hb:ZS∈m):ZS∈Za3 m C i p t:=by
 obtain ⟨q,b,e⟩:=List.mem_iff_getElem.1 hb;have a:=ZcJ hl hi;have c:m.getD q 0=ZS:=by simp[KJ,JR b,e]
 have f:(Za3 m C i p t).getD q 0=ZS:=by
  unfold Za3;rw[ZaV a];by_cases d:i*C<=q/\q<i*C+C
  ·rw[if_pos d];unfold ZcB;have:cell m C i (q-i*C)=ZS:=(by unfold cell;rw[show i*C+(q-i*C)=q by omega,c]);rw[this,ZnG]
  ·rw[if_neg d,c]
 rw[←f];exact ZjX (by unfold Za3;rw[ZM];exact b)
theorem Zd8 (h:NumBL m):NumBL (Za3 m C i p t):=fun x a=>by
 rcases Zee a with a|⟨k,_,rfl⟩
 ·exact h x a
 ·exact ZsO _ _
theorem ZdD (m:List Int) (C i p:Nat) (t:Int):(Za3 m C i p t).length=m.length:=ZM _ _ _ _
theorem Ze9 (hn: -400000000<=n/\n<=400000000) (hd:d≠0): -400000000<=n/d/\n/d<=400000000:=by
 have f:=LU n hd;have g:=Mt n hd;rcases Int.lt_or_gt_of_ne hd with h|h
 ·have e:n/d= -(n/ -d):=by rw[Int.ediv_neg];omega
  have a:0< -d:=I
  have b:n/ -d<=400000000:=PD a (by
   have:400000000*1<=400000000* -d:=Nq I I;omega)
  have c: -400000000<=n/ -d:=Oe a (by
   have:400000000*1<=400000000* -d:=Nq I I;rw[PE];omega)
  omega
 ·have b:n/d<=400000000:=PD h (by
   have:400000000*1<=400000000*d:=Nq I I;omega)
  have c: -400000000<=n/d:=Oe h (by
   have:400000000*1<=400000000*d:=Nq I I;rw[PE];omega)
  exact ⟨c,b⟩
structure Hm (C R:Nat) (s:HS):Prop where
 la:s.1.length=R*C
 lu:s.2.length=R*R
 na:NumBL s.1
 nu:NumBL s.2
def Zfr (C R i p:Nat) (t:Int) (s:HS):HS:=(Za3 s.1 C i p t,Za3 s.2 R i p t)
theorem Znu (h:Hm C R s):Hm C R (Zfr C R i p t s):=⟨by simp[Zfr,ZdD,h.la],by simp[Zfr,ZdD,h.lu],Zd8 h.na,Zd8 h.nu⟩
def Mk (s:HS):Prop:=ZS∈s.1\/ZS∈s.2
theorem Ztw (h:Hm C R s) (hi:i<R) (hb:Mk s):Mk (Zfr C R i p t s):=by
 rcases hb with hb|hb
 ·exact .inl (ZfT h.la hi hb)
 ·exact .inr (ZfT h.lu hi hb)
theorem ZoR (h:Hs C R s) (hi:i<R) (ht: -400000000<=t/\t<=400000000):(Zde C R i p t s=some (Zfr C R i p t s))\/(Zde C R i p t s=none/\Mk (Zfr C R i p t s)):=by
 unfold Zde Zfr;cases a:Zae s.1 C i p t with
 |false=>exact .inr ⟨rfl, .inl (Zhz h.la hi h.na ht a)⟩
 |true=>
  cases b:Zae s.2 R i p t with
  |false=>exact .inr ⟨rfl, .inr (Zhz h.lu hi h.nu ht b)⟩
  |true=>exact .inl (by rw[Zhv h.na ht a,Zhv h.nu ht b];rfl)
theorem Hs.hm (h:Hs C R s):Hm C R s:=⟨h.la,h.lu,h.na.bl,h.nu.bl⟩
theorem Hs.no (h:Hs C R s): ¬ Mk s:=by
 rintro (a|a)
 ·exact Zaz (h.na _ a) rfl
 ·exact Zaz (h.nu _ a) rfl
structure Ech (C R:Nat) (m:List Int) (j t:Nat):Prop where
 full: ∀ i,i<t-> ∃ k,k<j/\cell m C i k≠0
 zero: ∀ i,t<=i->i<R-> ∀ k,k<j->cell m C i k=0
theorem ZmE {C R j t:Nat} (hj:j<C): ∀ {n:Nat} {s s':HS} {p p':Nat},Hs C R s->Piv s.1 C R j p t->Zfa C R j t n s p=some (s',p')->
  Hs C R s'/\Piv s'.1 C R j p' t/\ZaW s'.1 C R j p' t=true/\(∀ i' k,k<C->i'<t->cell s'.1 C i' k=cell s.1 C i' k)/\(∀ k,k<C->(∀ i',t<=i'->i'<R->cell s.1 C i' k=0)-> ∀ i',t<=i'->i'<R->cell s'.1 C i' k=0)
 |0,_,_,_,_,_,_,h=>Ω
 |n+1,s,s',p,p',hs,hv,h=>by
  simp only[Zfa] at h;cases ha:ZaW s.1 C R j p t with
  |true=>rw[ha,if_pos rfl] at h;obtain ⟨rfl,rfl⟩:=Prod.mk.inj (JJ h);exact ⟨hs,hv,ha,fun _ _ _ _=>rfl,fun k _ hz=>hz⟩
  |false=>
   rw[ha,if_neg Θ] at h;cases he:pass C R j p (R-t) t s with
   |none=>rw[he] at h;cases h
   |some s1=>rw[he] at h;obtain ⟨g1,_,g3,_,g5,g6⟩:=Zgb hj hs hv ha he;obtain ⟨e1,e2,e3,e4,e5⟩:=ZmE hj g1 g3 (show Zfa C R j t n s1 _=_ from h);exact ⟨e1,e2,e3,fun i' k hk hi=>(e4 i' k hk hi).trans (g5 i' k hk hi),fun k hk hz=>e5 k hk (g6 k hk hz)⟩
theorem Zoe {C R j t:Nat} (hj:j<C) (ht:t<R): ∀ {n i:Nat} {s s':HS},Hs C R s->i+n<=t->red C R j t n i s=some s'->
  Hs C R s'/\(∀ i' k,k<C->t<=i'->cell s'.1 C i' k=cell s.1 C i' k)/\(∀ i' k,k<C->cell s.1 C t k=0->cell s'.1 C i' k=cell s.1 C i' k)
 |0,i,s,s',h,_,he=>by obtain rfl:=JJ he;exact ⟨h,fun _ _ _ _=>rfl,fun _ _ _ _=>rfl⟩
 |n+1,i,s,s',h,hn,he=>by
  simp only[red] at he;cases ha:Zde C R i t (-(cell s.1 C i j/cell s.1 C t j)) s with
  |none=>rw[ha] at he;cases he
  |some s1=>
   rw[ha] at he;obtain ⟨h1,e1⟩:=Zha h ha;have hcell: ∀ i' k,k<C->cell s1.1 C i' k=if i'=i then cell s.1 C i k+cell s.1 C t k*(-(cell s.1 C i j/cell s.1 C t j)) else cell s.1 C i' k:=fun i' k hk=>DC;obtain ⟨g1,g2,g3⟩:=Zoe hj ht h1 I (show red C R j t n (i+1) s1=some s' from he);refine ⟨g1,fun i' k hk hi=>by rw[g2 i' k hk hi,hcell i' k hk,if_neg I],fun i' k hk hz=> ?_⟩;rw[g3 i' k hk (by rw[hcell t k hk,if_neg I];exact hz),hcell i' k hk];split
   ·rename_i e;subst e;rw[hz];simp
   ·rfl
theorem Zrv {t:Nat} (hj:j<C) (ht:t<R) (h:Hs C R s) (hv:Piv s.1 C R j p t) (ha:ZaW s.1 C R j p t=true) (hE:Ech C R s.1 j t) (he:ZiR C R j t p s=some s'):Hs C R s'/\Ech C R s'.1 (j+1) (t+1):=by
 unfold ZiR at he;have c:=Zey.1 ha;obtain ⟨d,v,m,w,z⟩:Hs C R (Zcy C R p t s)/\(∀ i k,k<C->i<t->cell (Zcy C R p t s).1 C i k=cell s.1 C i k)/\(∀ i,t<=i->i<R-> ∀ k,k<j->cell (Zcy C R p t s).1 C i k=0)/\(∀ i,t<i->i<R->cell (Zcy C R p t s).1 C i j=0)/\cell (Zcy C R p t s).1 C t j≠0:=by
  unfold Zcy;by_cases e:p=t
  ·rw[if_pos e];subst e;exact ⟨h,fun _ _ _ _=>rfl,hE.zero,fun i d f=>c i I f I,hv.ne⟩
  ·rw[if_neg e];have b: ∀ i k,k<C->cell (sw2 C R p t s).1 C i k=if i=p then cell s.1 C t k else if i=t then cell s.1 C p k else cell s.1 C i k:=fun i k a=>Zej h.la hv.hi ht e a;have n:=hv.lo;have o:=hv.hi;refine ⟨ZnP h,fun i k a q=>by rw[b i k a,if_neg I,if_neg I],fun i d f k a=> ?_,fun i d f=> ?_, ?_⟩
   ·rw[b i k I];split
    ·exact hE.zero t (JM _) ht k a
    ·split
     ·exact hE.zero p n o k a
     ·exact hE.zero i d f k a
   ·rw[b i j hj];split
    ·exact c t (JM _) ht I
    ·rw[if_neg I];exact c i I f I
   ·rw[b t j hj,if_neg I,if_pos rfl];exact hv.ne
 obtain ⟨f,A,x,B,D⟩:Hs C R (Zdc C R j t (Zcy C R p t s))/\(∀ i k,k<C->i<t->cell (Zdc C R j t (Zcy C R p t s)).1 C i k=cell s.1 C i k)/\(∀ i,t<=i->i<R-> ∀ k,k<j->cell (Zdc C R j t (Zcy C R p t s)).1 C i k=0)/\(∀ i,t<i->i<R->cell (Zdc C R j t (Zcy C R p t s)).1 C i j=0)/\cell (Zdc C R j t (Zcy C R p t s)).1 C t j≠0:=by
  unfold Zdc;split
  ·have b: ∀ i k,k<C->cell (ZeQ C R t (Zcy C R p t s)).1 C i k=if i=t then -cell (Zcy C R p t s).1 C t k else cell (Zcy C R p t s).1 C i k:=fun i k a=>Zi7 d.la ht a;refine ⟨ZlI d,fun i k a q=>by rw[b i k a,if_neg I];exact v i k a q,fun i l g k a=> ?_,fun i l g=>by rw[b i j hj,if_neg I];exact w i l g, ?_⟩
   ·rw[b i k I];split
    ·rw[m t (JM _) ht k a];rfl
    ·exact m i l g k a
   ·rw[b t j hj,if_pos rfl];omega
  ·exact ⟨d,v,m,w,z⟩
 obtain ⟨E,y,F⟩:=Zoe hj ht f I he;refine ⟨E,fun i q=> ?_,fun i l g k a=> ?_⟩
 ·by_cases e:i=t
  ·subst e;exact ⟨j,I,by rw[y i j hj (JM _)];exact D⟩
  ·obtain ⟨k,a,r⟩:=hE.full i I;exact ⟨k,I,by rw[F i k I (x t (JM _) ht k a),A i k I I];exact r⟩
 ·rw[y i k I I];by_cases e:k=j
  ·subst e;exact B i I g
  ·exact x i I g k I
theorem Zh5 {C R:Nat}: ∀ {n j t:Nat} {s s':HS},Hs C R s->j+n=C->t<=R->Ech C R s.1 j t->ZW C R n j t s=some s'->Hs C R s'/\ ∃ t',t'<=R/\Ech C R s'.1 C t'
 |0,j,t,s,s',h,hj,ht,hE,he=>by
  obtain rfl:=JJ he;obtain rfl:j=C:=I
  exact ⟨h,t,ht,hE⟩
 |n+1,j,t,s,s',h,hj,ht,hE,he=>by
  simp only[ZW] at he;by_cases hlt:t<R
  ·rw[if_pos hlt] at he;by_cases hl:Zr s.1 C j t (R-t)<0
   ·rw[if_pos hl] at he;refine Zh5 h I ht ⟨fun i hi=> ?_,fun i h1 h2 k hk=> ?_⟩ he
    ·obtain ⟨k,hk,hne⟩:=hE.full i hi;exact ⟨k,I,hne⟩
    ·by_cases e:k=j
     ·subst e;rcases Zc6 s.1 C k t (R-t) with ⟨_,h3⟩|⟨p,h3,_⟩
      ·have:=h3 (i-t) I
       rwa [show t+(i-t)=i by omega] at this
      ·omega
     ·exact hE.zero i h1 h2 k I
   ·rw[if_neg hl] at he;have hv:=Piv.of (m:=s.1) (C:=C) (R:=R) (j:=j) (t:=t) ht I;cases hg:Zeg C R j t s (Zr s.1 C j t (R-t)).toNat with
    |none=>rw[hg] at he;cases he
    |some r=>
     rw[hg] at he;obtain ⟨s1,p1⟩:=r;obtain ⟨g1,g2,g3,g4,g5⟩:=ZmE I h hv hg;have hE1:Ech C R s1.1 j t:=⟨fun i hi=>by
      obtain ⟨k,hk,hne⟩:=hE.full i hi;exact ⟨k,hk,by rw[g4 i k I hi];exact hne⟩,fun i h1 h2 k hk=>g5 k I (fun i' h3 h4=>hE.zero i' h3 h4 k hk) i h1 h2⟩
     cases hc:ZiR C R j t p1 s1 with
     |none=>simp only[Kb,hc] at he;cases he
     |some s2=>simp only[Kb,hc] at he;obtain ⟨q1,q2⟩:=Zrv I hlt g1 g2 g3 hE1 hc;exact Zh5 q1 I I q2 he
  ·rw[if_neg hlt] at he;obtain rfl:=JJ he;exact ⟨h,t,ht,fun i hi=>by
    obtain ⟨k,hk,hne⟩:=hE.full i hi;exact ⟨k,I,hne⟩,fun i h1 h2=>I⟩
theorem Zbl (n:Nat):(idL n).length=n*n:=by
 unfold idL;have: ∀ (a:List Nat) (l:List Int),(a.foldl (fun l i=>l.set (i*n+i) 1) l).length=l.length:=by
  intro a;induction a with
  |nil=>intro l;rfl
  |cons k a b=>intro l;simp only[List.foldl_cons];rw[b];simp
 rw[this];simp
theorem Zbi (n:Nat):NumL (idL n):=by
 unfold idL;have: ∀ (b:List Nat) (l:List Int),NumL l->NumL (b.foldl (fun l i=>l.set (i*n+i) 1) l):=by
  intro b;induction b with
  |nil=>intro l h;exact h
  |cons k b c=>
   intro l h;refine c _ fun x a=> ?_;rcases Lf a with a|rfl
   ·exact h x a
   ·omega
 refine this _ _ fun x a=> ?_;rw[(List.mem_replicate.1 a).2];omega
theorem Zcj (hl:m.length=R*C) (hm:NumL m) (h:ZbP m R C=some s):Hs C R s/\ ∃ t,t<=R/\Ech C R s.1 C t:=
 Zh5 ⟨hl,Zbl R,hm,Zbi R⟩ I (Nat.zero_le _) ⟨fun i a=>I,fun i _ _ k b=>I⟩ h
def nzB (m:List Int) (C i:Nat):Bool:=(JN C).any fun k=>cell m C i k !=0
theorem Zet:nzB m C i=true↔ ∃ k,k<C/\cell m C i k≠0:=by
 unfold nzB;rw[List.any_eq_true];constructor
 ·rintro ⟨k,a,h⟩;exact ⟨k,JW.1 a,Ai⟩
 ·rintro ⟨k,a,h⟩;exact ⟨k,JW.2 a,Ai⟩
def Z7 (m:List Int) (C:Nat):Nat->Nat
 |0=>0
 |i+1=>if nzB m C i=true then i+1 else Z7 m C i
theorem Zj2 {C R:Nat} {m:List Int} {t:Nat} (h:Ech C R m C t): ∀ n,n<=R->t<=n->Z7 m C n=t
 |0,_,ht=>by simp[Z7];omega
 |n+1,hn,ht=>by
  simp only[Z7];by_cases e:t=n+1
  ·subst e;rw[if_pos (Zet.2 (h.full n I))]
  ·rw[if_neg,Zj2 h n I I];intro hz;obtain ⟨k,hk,hne⟩:=Zet.1 hz;exact hne (h.zero n I I k hk)
theorem Ztb {t:Nat} (h:Ech C R m C t) (ht:t<=R):(JN R).filter (nzB m C)=JN t:=by
 have e:JN R=JN t++KU t (R-t):=by rw[Mu,Mu,show (0:Nat)=0 from rfl];have:=List.range'_append (s:=0) (m:=t) (n:=R-t) (step:=1);simp at this;rw[this];congr 1;omega
 rw[e,List.filter_append];have c:(JN t).filter (nzB m C)=JN t:=List.filter_eq_self.2 fun i a=>Zet.2 (h.full i (JW.1 a));have d:(KU t (R-t)).filter (nzB m C)=[]:=List.filter_eq_nil_iff.2 fun i a f=>by rw[List.mem_range'_1] at a;obtain ⟨k,g,b⟩:=Zet.1 f;exact b (h.zero i I I k g)
 rw[c,d,Ma]
def Zag (m:List Int) (C i:Nat):List Int:=(m.drop (i*C)).take C
theorem ZiD {m:List Int} {C:Nat}: ∀ {t:Nat},t*C<=m.length->((JN t).map (Zag m C)).flatten=m.take (t*C)
 |0,_=>Θ
 |t+1,h=>by rw[Ki,LC] at h ⊢;rw[List.range_succ,List.map_append,List.flatten_append,ZiD I];simp only[List.map_cons,List.map_nil,List.flatten_cons,List.flatten_nil,Ma];unfold Zag;rw[List.take_add]

end Go.Proofs.YtgjefeiddfjjnaaGreatDoor
