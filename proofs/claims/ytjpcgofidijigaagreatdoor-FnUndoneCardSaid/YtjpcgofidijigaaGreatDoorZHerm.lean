/- The Hermite form, as plain Lean: cells row by row, the two matrices together; nothing where a number is beyond the limit. -/
import Derived.Test.YtjpcgofidijigaaGreatDoorZRdc
namespace Go.Proofs.YtjpcgofidijigaaGreatDoor
open Go.RowKit
variable {C R i i' j k p t:Nat} {l m:List Int} {n x:Int}
def ZC (f:Nat->Int) (o:Nat):Nat->List Int->List Int
 |0,m=>m
 |k+1,m=>(ZC f o k m).set (o+k) (f k)
theorem ZL (f:Nat->Int) (o:Nat): ∀ (k:Nat) (m:List Int),(ZC f o k m).length=m.length
 |0,_=>rfl
 |k+1,m=>by simp[ZC,ZL f o k m]
theorem Zff {v:Int} (h:i<l.length):(l.set i v).getD j 0=if j=i then v else l.getD j 0:=by
 simp only[List.getD_eq_getElem?_getD,List.getElem?_set];by_cases e:i=j
 ·subst e;simp[h]
 ·rw[if_neg e,if_neg (fun h=>e h.symm)]
theorem Zbc {f:Nat->Int} {o:Nat}: ∀ {k:Nat} {m:List Int} (_:o+k<=m.length) (j:Nat),(ZC f o k m).getD j 0=if o<=j/\j<o+k then f (j-o) else m.getD j 0
 |0,m,_,j=>by simp only[ZC];rw[if_neg (by omega)]
 |k+1,m,h,j=>by
  simp only[ZC];rw[Zff (by rw[ZL];omega),Zbc (by omega)];by_cases e:j=o+k
  ·subst e;rw[if_pos rfl,if_pos (by omega)];congr 1;omega
  ·rw[if_neg e];by_cases e2:o<=j/\j<o+k
   ·rw[if_pos e2,if_pos (by omega)]
   ·rw[if_neg e2,if_neg (by omega)]
theorem ZdQ {f:Nat->Int} {o:Nat}: ∀ {k:Nat} {m:List Int} {x:Int},x∈ZC f o k m->x∈m\/ ∃ i,i<k/\x=f i
 |0,m,x,h=> .inl h
 |k+1,m,x,h=>by
  rcases List.mem_or_eq_of_mem_set h with h|h
  ·rcases ZdQ h with h|⟨i,hi,e⟩
   ·exact .inl h
   ·exact .inr ⟨i,by omega,e⟩
  ·exact .inr ⟨k,by omega,h⟩
def cell (m:List Int) (C i j:Nat):Int:=m.getD (i*C+j) 0
theorem Zo (h:NumL m) (C i j:Nat): -400000000<=cell m C i j/\cell m C i j<=400000000:=h.getD _
theorem Zr (hj:j<C) (hi:i<R):i*C+j<R*C:=by
 have:(i+1)*C<=R*C:=Nat.mul_le_mul_right _ hi;rw[Nat.add_mul] at this;omega
theorem Zc5 {j':Nat} (hj:j<C) (hj':j'<C) (h:i*C+j=i'*C+j'):i=i'/\j=j':=by
 rcases Nat.lt_trichotomy i i' with hl|hl|hl
 ·have:=Zr hj hl;omega
 ·subst hl;exact ⟨rfl,by omega⟩
 ·have:=Zr hj' hl;omega
theorem Ze0 {f:Nat->Int} (hl:m.length=R*C) (hi:i<R) (hj:j<C):cell (ZC f (i*C) C m) C i' j=if i'=i then f j else cell m C i' j:=by
 unfold cell;have h1:i*C+C<=m.length:=by have:(i+1)*C<=R*C:=Nat.mul_le_mul_right _ hi;rw[Nat.add_mul] at this;omega
 rw[Zbc h1];by_cases e:i'=i
 ·subst e;rw[if_pos rfl,if_pos (by omega)];congr 1;omega
 ·rw[if_neg e,if_neg];rintro ⟨h2,h3⟩;obtain ⟨e1,_⟩:=Zc5 (i:=i') (i':=i) (j':=i'*C+j-i*C) hj (by omega) (by omega);exact e e1
def Za4 (m:List Int) (C i p:Nat) (t:Int) (k:Nat):Int:=cell m C i k+cell m C p k*t
def Z8 (m:List Int) (C i p:Nat) (t:Int):Bool:=(List.range C).all fun k=>Zl (cell m C p k*t)&&Zl (Za4 m C i p t k)
def addR (m:List Int) (C i p:Nat) (t:Int):List Int:=ZC (Za4 m C i p t) (i*C) C m
def Zdv (m:List Int) (C i:Nat):List Int:=ZC (fun k=> -cell m C i k) (i*C) C m
def swN (m:List Int) (C p t:Nat):Nat->List Int
 |0=>m
 |k+1=>((swN m C p t k).set (p*C+k) (cell m C t k)).set (t*C+k) (cell m C p k)
def swR (m:List Int) (C p t:Nat):List Int:=swN m C p t C
theorem Zbe (m:List Int) (C p t:Nat): ∀ k,(swN m C p t k).length=m.length
 |0=>rfl
 |k+1=>by simp[swN,Zbe m C p t k]
theorem Zcg {t:Int}:Z8 m C i p t=true↔ ∀ k,k<C->Zl (cell m C p k*t)=true/\Zl (Za4 m C i p t k)=true:=by
 unfold Z8;rw[List.all_eq_true];constructor
 ·intro h k hk;have:=h k (List.mem_range.2 hk)
  rwa [Bool.and_eq_true] at this
 ·intro h k hk;have:=h k (List.mem_range.1 hk)
  rwa [Bool.and_eq_true]
theorem Zcw {t:Int} (h:NumL m) (hok:Z8 m C i p t=true):NumL (addR m C i p t):=fun x hx=>by
 rcases ZdQ hx with hx|⟨k,hk,rfl⟩
 ·exact h x hx
 ·exact ZI.1 (Zcg.1 hok k hk).2
theorem Zgs (h:NumL m):NumL (Zdv m C i):=fun x hx=>by
 rcases ZdQ hx with hx|⟨k,hk,rfl⟩
 ·exact h x hx
 ·have:=Zo h C i k;omega
theorem Zb4 {m:List Int} {C p t:Nat} (h:NumL m): ∀ k,NumL (swN m C p t k)
 |0=>h
 |k+1=>fun x hx=>by
  rcases List.mem_or_eq_of_mem_set hx with hx|rfl
  ·rcases List.mem_or_eq_of_mem_set hx with hx|rfl
   ·exact Zb4 h k x hx
   ·exact Zo h C t k
  ·exact Zo h C p k
theorem Za8 {t:Int} (hl:m.length=R*C) (hi:i<R) (hj:j<C):cell (addR m C i p t) C i' j=if i'=i then cell m C i j+cell m C p j*t else cell m C i' j:=Ze0 hl hi hj
theorem ZkD (hl:m.length=R*C) (hi:i<R) (hj:j<C):cell (Zdv m C i) C i' j=if i'=i then -cell m C i j else cell m C i' j:=Ze0 hl hi hj
theorem Zgu {m:List Int} {C R p t:Nat} (hl:m.length=R*C) (hp:p<R) (ht:t<R) (hne:p≠t): ∀ k,k<=C-> ∀ i j,j<C->(swN m C p t k).getD (i*C+j) 0=if i=p/\j<k then cell m C t j else if i=t/\j<k then cell m C p j else cell m C i j
 |0,_,i,j,_=>by simp[swN,cell]
 |k+1,hk,i,j,hj=>by
  have hlen:(swN m C p t k).length=R*C:=by rw[Zbe,hl]
  have h1:p*C+k<R*C:=Zr (by omega) hp;have h2:t*C+k<R*C:=Zr (by omega) ht;simp only[swN];rw[Zff (by rw[List.length_set];omega),Zff (by omega),Zgu hl hp ht hne k (by omega) i j hj];by_cases e1:i*C+j=t*C+k
  ·obtain ⟨rfl,rfl⟩:=Zc5 hj (by omega) e1;rw[if_pos rfl,if_neg (by omega),if_pos (by omega)]
  ·rw[if_neg e1];by_cases e2:i*C+j=p*C+k
   ·obtain ⟨rfl,rfl⟩:=Zc5 hj (by omega) e2;rw[if_pos rfl,if_pos (by omega)]
   ·rw[if_neg e2];by_cases e3:i=p
    ·subst e3;have hk2:j<k+1↔j<k:=(by have:j≠k:=fun e=>e2 (by rw[e]);omega);simp only[hk2]
    ·simp only[e3,false_and,if_false];by_cases e5:i=t
     ·subst e5;have hk2:j<k+1↔j<k:=(by have:j≠k:=fun e=>e1 (by rw[e]);omega);simp only[hk2]
     ·simp only[e5,false_and,if_false]
theorem Ze5 (hl:m.length=R*C) (hp:p<R) (ht:t<R) (hne:p≠t) (hj:j<C):cell (swR m C p t) C i j=if i=p then cell m C t j else if i=t then cell m C p j else cell m C i j:=by
 have:=Zgu hl hp ht hne C (Nat.le_refl _) i j hj;unfold cell swR at *;rw[this];by_cases e:i=p
 ·rw[if_pos ⟨e,hj⟩,if_pos e]
 ·rw[if_neg (by omega),if_neg e];by_cases e2:i=t
  ·rw[if_pos ⟨e2,hj⟩,if_pos e2]
  ·rw[if_neg (by omega),if_neg e2]
abbrev HS:=List Int×List Int
variable {s s':HS}
def Zb8 (C R i p:Nat) (t:Int) (s:HS):Option HS:=if Z8 s.1 C i p t&&Z8 s.2 R i p t then some (addR s.1 C i p t,addR s.2 R i p t) else none
def sw2 (C R p t:Nat) (s:HS):HS:=(swR s.1 C p t,swR s.2 R p t)
def ZgF (C R t:Nat) (s:HS):HS:=(Zdv s.1 C t,Zdv s.2 R t)
structure Hs (C R:Nat) (s:HS):Prop where
 la:s.1.length=R*C
 lu:s.2.length=R*R
 na:NumL s.1
 nu:NumL s.2
theorem ZfO {t:Int} (h:Hs C R s) (he:Zb8 C R i p t s=some s'):Hs C R s'/\s'=(addR s.1 C i p t,addR s.2 R i p t):=by
 unfold Zb8 at he;split at he
 ·rename_i hok;rw[Bool.and_eq_true] at hok;obtain rfl:=Option.some.inj he;exact ⟨⟨by simp[addR,ZL,h.la],by simp[addR,ZL,h.lu],Zcw h.na hok.1,Zcw h.nu hok.2⟩,rfl⟩
 ·cases he
theorem Zo6 (h:Hs C R s):Hs C R (sw2 C R p t s):=⟨by simp[sw2,swR,Zbe,h.la],by simp[sw2,swR,Zbe,h.lu],Zb4 h.na _,Zb4 h.nu _⟩
theorem Zm4 (h:Hs C R s):Hs C R (ZgF C R t s):=⟨by simp[ZgF,Zdv,ZL,h.la],by simp[ZgF,Zdv,ZL,h.lu],Zgs h.na,Zgs h.nu⟩
def ZE (m:List Int) (C j t:Nat):Nat->Int
 |0=> -1
 |n+1=>if cell m C (t+n) j≠0/\(ZE m C j t n<0\/(cell m C (t+n) j).natAbs<(cell m C (ZE m C j t n).toNat j).natAbs) then ((t+n:Nat):Int) else ZE m C j t n
def ZaS (m:List Int) (C R j p t:Nat):Bool:=(List.range (R-t)).all fun d=>decide (t+d=p)||decide (cell m C (t+d) j=0)
theorem ZcT (m:List Int) (C j t:Nat): ∀ n,(ZE m C j t n= -1/\ ∀ d,d<n->cell m C (t+d) j=0)\/
  ∃ p:Nat,ZE m C j t n=p/\t<=p/\p<t+n/\cell m C p j≠0/\ ∀ d,d<n->cell m C (t+d) j≠0->(cell m C p j).natAbs<=(cell m C (t+d) j).natAbs
 |0=> .inl ⟨rfl,fun d h=>by omega⟩
 |n+1=>by
  have ih:=ZcT m C j t n;simp only[ZE];by_cases hc:cell m C (t+n) j=0
  ·rw[if_neg (by simp[hc])];rcases ih with ⟨h1,h2⟩|⟨p,h1,h2,h3,h4,h5⟩
   ·exact .inl ⟨h1,fun d hd=>by
     by_cases e:d=n
     ·subst e;exact hc
     ·exact h2 d (by omega)⟩
   ·exact .inr ⟨p,h1,h2,by omega,h4,fun d hd hne=>by
     by_cases e:d=n
     ·subst e;exact (hne hc).elim
     ·exact h5 d (by omega) hne⟩
  ·rcases ih with ⟨h1,h2⟩|⟨p,h1,h2,h3,h4,h5⟩
   ·rw[if_pos ⟨hc, .inl (by omega)⟩];exact .inr ⟨t+n,rfl,by omega,by omega,hc,fun d hd hne=>by
     by_cases e:d=n
     ·subst e;exact Nat.le_refl _
     ·exact (hne (h2 d (by omega))).elim⟩
   ·rw[h1];simp only[Int.toNat_natCast];by_cases hlt:(cell m C (t+n) j).natAbs<(cell m C p j).natAbs
    ·rw[if_pos ⟨hc, .inr hlt⟩];exact .inr ⟨t+n,rfl,by omega,by omega,hc,fun d hd hne=>by
      by_cases e:d=n
      ·subst e;exact Nat.le_refl _
      ·have:=h5 d (by omega) hne;omega⟩
    ·rw[if_neg (by rintro ⟨_,h|h⟩<;>omega)];exact .inr ⟨p,rfl,h2,by omega,h4,fun d hd hne=>by
      by_cases e:d=n
      ·subst e;omega
      ·exact h5 d (by omega) hne⟩
theorem ZeB:ZaS m C R j p t=true↔ ∀ i,t<=i->i<R->i≠p->cell m C i j=0:=by
 unfold ZaS;rw[List.all_eq_true];constructor
 ·intro h i h1 h2 h3;have:=h (i-t) (List.mem_range.2 (by omega));rw[Bool.or_eq_true,decide_eq_true_eq,decide_eq_true_eq,show t+(i-t)=i by omega] at this;exact this.resolve_left h3
 ·intro h d hd;rw[Bool.or_eq_true,decide_eq_true_eq,decide_eq_true_eq];have:=List.mem_range.1 hd;by_cases e:t+d=p
  ·exact .inl e
  ·exact .inr (h _ (by omega) (by omega) e)
structure Piv (m:List Int) (C R j p t:Nat):Prop where
 lo:t<=p
 hi:p<R
 ne:cell m C p j≠0
 least: ∀ i,t<=i->i<R->cell m C i j≠0->(cell m C p j).natAbs<=(cell m C i j).natAbs
theorem Piv.of (ht:t<=R) (h:0<=ZE m C j t (R-t)):Piv m C R j (ZE m C j t (R-t)).toNat t:=by
 rcases ZcT m C j t (R-t) with ⟨h1,_⟩|⟨p,h1,h2,h3,h4,h5⟩
 ·omega
 ·rw[h1,Int.toNat_natCast];exact ⟨h2,by omega,h4,fun i hi hr hne=>by
   have:=h5 (i-t) (by omega);rw[show t+(i-t)=i by omega] at this;exact this hne⟩
def pass (C R j p:Nat):Nat->Nat->HS->Option HS
 |0,_,s=>some s
 |n+1,i,s=>if i≠p/\cell s.1 C i j≠0 then (Zb8 C R i p (-(cell s.1 C i j/cell s.1 C p j)) s).bind (pass C R j p n (i+1)) else pass C R j p n (i+1) s
theorem Zhl {C R j p:Nat} (hj:j<C) (hp:p<R): ∀ {n i:Nat} {s s':HS},Hs C R s->i+n<=R->cell s.1 C p j≠0->pass C R j p n i s=some s'->
  Hs C R s'/\(∀ k,k<C->cell s'.1 C p k=cell s.1 C p k)/\(∀ i',i<=i'->i'<i+n->i'≠p->0<=cell s'.1 C i' j/\(cell s'.1 C i' j).natAbs<(cell s.1 C p j).natAbs)/\(∀ i' k,k<C->i'<i\/i+n<=i'->cell s'.1 C i' k=cell s.1 C i' k)/\
  (∀ k,k<C->(∀ i',i<=i'->i'<i+n->cell s.1 C i' k=0)->cell s.1 C p k=0-> ∀ i',i<=i'->i'<i+n->cell s'.1 C i' k=0)
 |0,i,s,s',h,_,_,he=>by obtain rfl:=Option.some.inj he;exact ⟨h,fun _ _=>rfl,fun _ _ _=>by omega,fun _ _ _ _=>rfl,fun _ _ _ _ _ _ _=>by omega⟩
 |n+1,i,s,s',h,hn,hne,he=>by
  simp only[pass] at he;by_cases hc:i≠p/\cell s.1 C i j≠0
  ·rw[if_pos hc] at he;cases ha:Zb8 C R i p (-(cell s.1 C i j/cell s.1 C p j)) s with
   |none=>rw[ha] at he;cases he
   |some s1=>
    rw[ha] at he;obtain ⟨h1,e1⟩:=ZfO h ha;have hcell: ∀ i' k,k<C->cell s1.1 C i' k=if i'=i then cell s.1 C i k+cell s.1 C p k*(-(cell s.1 C i j/cell s.1 C p j)) else cell s.1 C i' k:=fun i' k hk=>(by rw[e1];exact Za8 h.la (by omega) hk);have hpk: ∀ k,k<C->cell s1.1 C p k=cell s.1 C p k:=fun k hk=>(by rw[hcell p k hk,if_neg (Ne.symm hc.1)]);obtain ⟨g1,g2,g3,g4,g5⟩:=Zhl hj hp h1 (by omega) (by rw[hpk j hj];exact hne) (show pass C R j p n (i+1) s1=some s' from he);refine ⟨g1,fun k hk=>by rw[g2 k hk,hpk k hk],fun i' h2 h3 h4=> ?_,fun i' k hk h2=> ?_,fun k hk hz hpz i' h2 h3=> ?_⟩
    ·by_cases e:i'=i
     ·subst e;rw[g4 i' j hj (.inl (by omega)),hcell i' j hj,if_pos rfl];have e2:cell s.1 C i' j+cell s.1 C p j*(-(cell s.1 C i' j/cell s.1 C p j))=cell s.1 C i' j%cell s.1 C p j:=(by have:=Int.emod_def (cell s.1 C i' j) (cell s.1 C p j);rw[Int.mul_neg];omega);rw[e2];have h5:=Int.emod_nonneg (cell s.1 C i' j) hne;have h6:=Int.emod_lt (cell s.1 C i' j) hne;omega
     ·have:=g3 i' (by omega) (by omega) h4;rw[hpk j hj] at this;exact this
    ·rw[g4 i' k hk (by omega),hcell i' k hk,if_neg (by omega)]
    ·by_cases e:i'=i
     ·subst e;rw[g4 i' k hk (.inl (by omega)),hcell i' k hk,if_pos rfl,hz i' (by omega) (by omega),hpz];simp
     ·exact g5 k hk (fun q h4 h5=>by rw[hcell q k hk,if_neg (by omega)];exact hz q (by omega) (by omega)) (by rw[hpk k hk];exact hpz) i' (by omega) (by omega)
  ·rw[if_neg hc] at he;obtain ⟨g1,g2,g3,g4,g5⟩:=Zhl hj hp h (by omega) hne he;refine ⟨g1,g2,fun i' h2 h3 h4=> ?_,fun i' k hk h2=>g4 i' k hk (by omega),fun k hk hz hpz i' h2 h3=> ?_⟩
   ·by_cases e:i'=i
    ·subst e;have h0:cell s.1 C i' j=0:=by
      rcases Classical.em (cell s.1 C i' j=0) with h0|h0
      ·exact h0
      ·exact (hc ⟨h4,h0⟩).elim
     rw[g4 i' j hj (.inl (by omega)),h0];have:(cell s.1 C p j).natAbs≠0:=(by omega);exact ⟨by omega,by simp;omega⟩
    ·exact g3 i' (by omega) (by omega) h4
   ·by_cases e:i'=i
    ·subst e;rw[g4 i' k hk (.inl (by omega))];exact hz i' (by omega) (by omega)
    ·exact g5 k hk (fun q h4 h5=>hz q (by omega) (by omega)) hpz i' (by omega) (by omega)
def mu (m:List Int) (C R j p t:Nat):Nat:=(cell m C p j).natAbs+(if ZaS m C R j p t then 0 else 1)
def ZdI (C R j t:Nat):Nat->HS->Nat->Option (HS×Nat)
 |0,_,_=>none
 |n+1,s,p=>if ZaS s.1 C R j p t then some (s,p) else (pass C R j p (R-t) t s).bind fun s'=>ZdI C R j t n s' (ZE s'.1 C j t (R-t)).toNat
theorem Zf9 (hj:j<C) (h:Hs C R s) (hv:Piv s.1 C R j p t) (ha:ZaS s.1 C R j p t=false) (he:pass C R j p (R-t) t s=some s'):
  Hs C R s'/\0<=ZE s'.1 C j t (R-t)/\Piv s'.1 C R j (ZE s'.1 C j t (R-t)).toNat t/\mu s'.1 C R j (ZE s'.1 C j t (R-t)).toNat t<mu s.1 C R j p t/\
  (∀ i' k,k<C->i'<t->cell s'.1 C i' k=cell s.1 C i' k)/\(∀ k,k<C->(∀ i',t<=i'->i'<R->cell s.1 C i' k=0)-> ∀ i',t<=i'->i'<R->cell s'.1 C i' k=0):=by
 have hlo:=hv.lo;have hhi:=hv.hi;obtain ⟨g1,g2,g3,g4,g5⟩:=Zhl hj hv.hi h (by omega) hv.ne he;have hpne:cell s'.1 C p j≠0:=by rw[g2 j hj];exact hv.ne
 have h0:0<=ZE s'.1 C j t (R-t):=by
  rcases ZcT s'.1 C j t (R-t) with ⟨_,h2⟩|⟨q,h1,_⟩
  ·have:=h2 (p-t) (by omega);rw[show t+(p-t)=p by omega] at this;exact (hpne this).elim
  ·omega
 have hv':=Piv.of (m:=s'.1) (C:=C) (R:=R) (j:=j) (t:=t) (by omega) h0;generalize (ZE s'.1 C j t (R-t)).toNat=q at *;refine ⟨g1,h0,hv', ?_,fun i' k hk hi=>g4 i' k hk (.inl hi),fun k hk hz i' h2 h3=>g5 k hk (fun q h4 h5=>hz q h4 (by omega)) (hz p hlo hhi) i' h2 (by omega)⟩;unfold mu;rw[ha];simp only[Bool.false_eq_true,if_false];by_cases e:q=p
 ·subst e;have hal:ZaS s'.1 C R j q t=true:=ZeB.2 fun i h1 h2 h3=>by
   have h4:=(g3 i h1 (by omega) h3).2;rcases Classical.em (cell s'.1 C i j=0) with h5|h5
   ·exact h5
   ·have h6:=hv'.least i h1 h2 h5;rw[g2 j hj] at h6;omega
  rw[hal,g2 j hj];simp
 ·have:=(g3 q hv'.lo (by have:=hv'.hi;omega) e).2;split<;>omega
theorem Zj8 {C R j t:Nat} (hj:j<C): ∀ {n m:Nat} {s:HS} {p:Nat},Hs C R s->Piv s.1 C R j p t->mu s.1 C R j p t<n->mu s.1 C R j p t<m->ZdI C R j t n s p=ZdI C R j t m s p
 |0,_,_,_,_,_,h,_=>by omega
 |_,0,_,_,_,_,_,h=>by omega
 |n+1,m+1,s,p,hs,hv,hn,hm=>by
  simp only[ZdI];cases ha:ZaS s.1 C R j p t with
  |true=>rfl
  |false=>
   simp only[Bool.false_eq_true,if_false];cases he:pass C R j p (R-t) t s with
   |none=>rfl
   |some s'=>obtain ⟨g1,_,g3,g4,_⟩:=Zf9 hj hs hv ha he;exact Zj8 hj g1 g3 (by omega) (by omega)
def Zeq (C R j t:Nat) (s:HS) (p:Nat):Option (HS×Nat):=ZdI C R j t (mu s.1 C R j p t+1) s p
theorem Zop (ha:ZaS s.1 C R j p t=true):Zeq C R j t s p=some (s,p):=by
 unfold Zeq;simp only[ZdI,ha,if_true]
theorem ZoL (ha:ZaS s.1 C R j p t=false) (he:pass C R j p (R-t) t s=none):Zeq C R j t s p=none:=by
 unfold Zeq;simp only[ZdI,ha,he];rfl
theorem Zpk (hj:j<C) (h:Hs C R s) (hv:Piv s.1 C R j p t) (ha:ZaS s.1 C R j p t=false) (he:pass C R j p (R-t) t s=some s'):Zeq C R j t s p=Zeq C R j t s' (ZE s'.1 C j t (R-t)).toNat:=by
 obtain ⟨g1,_,g3,g4,_⟩:=Zf9 hj h hv ha he;unfold Zeq;rw[show ZdI C R j t (mu s.1 C R j p t+1) s p=ZdI C R j t (mu s.1 C R j p t) s' (ZE s'.1 C j t (R-t)).toNat by simp only[ZdI,ha,he];rfl];exact Zj8 hj g1 g3 g4 (by omega)
def red (C R j t:Nat):Nat->Nat->HS->Option HS
 |0,_,s=>some s
 |n+1,i,s=>(Zb8 C R i t (-(cell s.1 C i j/cell s.1 C t j)) s).bind (red C R j t n (i+1))
def Zb6 (C R p t:Nat) (s:HS):HS:=if p=t then s else sw2 C R p t s
def ZdM (C R j t:Nat) (s:HS):HS:=if cell s.1 C t j<0 then ZgF C R t s else s
def ZjN (C R j t p:Nat) (s:HS):Option HS:=red C R j t t 0 (ZdM C R j t (Zb6 C R p t s))
def ZaG (C R:Nat):Nat->Nat->Nat->HS->Option HS
 |0,_,_,s=>some s
 |n+1,j,t,s=>if t<R then
   (if ZE s.1 C j t (R - t) < 0 then ZaG C R n (j + 1) t s
    else (Zeq C R j t s (ZE s.1 C j t (R-t)).toNat).bind fun r=>(ZjN C R j t r.2 r.1).bind (ZaG C R n (j+1) (t+1)))
  else some s
theorem Zog {n:Nat} (h:R<=t):ZaG C R n j t s=some s:=by
 cases n with
 |zero=>rfl
 |succ n=>simp only[ZaG];rw[if_neg (by omega)]
def idL (n:Nat):List Int:=(List.range n).foldl (fun l i=>l.set (i*n+i) 1) (List.replicate (n*n) 0)
def Zb7 (m:List Int) (R C:Nat):Option HS:=ZaG C R C 0 0 (m,idL R)
def Zah:Int:= -4611686018427387904
def Zjy (n:Int):Int:=if Zl n=true then n else Zah
def Zep (a b:Int):Int:=if a=Zah\/b=Zah then Zah else Zjy (a+b)
def ZcP (a b:Int):Int:=if a=Zah\/b=Zah then Zah else Zjy (a*b)
def NumS (x:Int):Prop:=(-400000000<=x/\x<=400000000)\/x=Zah
def NumBL (l:List Int):Prop:= ∀ x∈l,NumS x
theorem NumS.i64 (h:NumS x):I64 x:=by unfold NumS Zah at h;unfold I64;omega
theorem NumL.bl (h:NumL l):NumBL l:=fun x hx=> .inl (h x hx)
theorem NumBL.getD (h:NumBL l) (i:Nat):NumS (l.getD i 0):=by
 rcases Nat.lt_or_ge i l.length with hi|hi
 ·have e:l.getD i 0=l[i]:=by simp[List.getD,List.getElem?_eq_getElem hi]
  rw[e];exact h _ (List.getElem_mem hi)
 ·have e:l.getD i 0=0:=by simp[List.getD,List.getElem?_eq_none hi]
  rw[e];exact .inl (by omega)
theorem ZeO (h:Zl n=true):Zjy n=n:=by unfold Zjy;rw[if_pos h]
theorem Zf6 (h:Zl n=false):Zjy n=Zah:=by unfold Zjy;rw[if_neg (by simp[h])]
theorem ZaO (h: -400000000<=x/\x<=400000000):x≠Zah:=by unfold Zah;omega
theorem ZlE (b:Int):Zep Zah b=Zah:=by unfold Zep;rw[if_pos (.inl rfl)]
def ZhH (m:List Int) (C i p:Nat) (t:Int) (k:Nat):Int:=Zep (cell m C i k) (ZcP (cell m C p k) t)
def ZcD (m:List Int) (C i p:Nat) (t:Int):List Int:=ZC (ZhH m C i p t) (i*C) C m
theorem ZpO {t:Int} (h:NumL m) (ht: -400000000<=t/\t<=400000000) (h1:Zl (cell m C p k*t)=true) (h2:Zl (Za4 m C i p t k)=true):ZhH m C i p t k=Za4 m C i p t k:=by
 unfold ZhH;have e:ZcP (cell m C p k) t=cell m C p k*t:=by unfold ZcP;rw[if_neg (by rintro (e|e);exact ZaO (Zo h C p k) e;exact ZaO ht e),ZeO h1]
 rw[e];unfold Zep;rw[if_neg (by rintro (e|e);exact ZaO (Zo h C i k) e;exact ZaO (ZI.1 h1) e)];exact ZeO h2
theorem Zq9 {t:Int} (h:NumL m) (ht: -400000000<=t/\t<=400000000) (h1: ¬ (Zl (cell m C p k*t)=true/\Zl (Za4 m C i p t k)=true)):ZhH m C i p t k=Zah:=by
 unfold ZhH;cases e1:Zl (cell m C p k*t) with
 |false=>
  have e:ZcP (cell m C p k) t=Zah:=by
   unfold ZcP;split
   ·rfl
   ·exact Zf6 e1
  rw[e];unfold Zep;rw[if_pos (.inr rfl)]
 |true=>
  have e:ZcP (cell m C p k) t=cell m C p k*t:=by unfold ZcP;rw[if_neg (by rintro (e|e);exact ZaO (Zo h C p k) e;exact ZaO ht e),ZeO e1]
  rw[e];have e2:Zl (Za4 m C i p t k)=false:=by
   cases e2:Zl (Za4 m C i p t k) with
   |false=>rfl
   |true=>exact (h1 ⟨e1,e2⟩).elim
  unfold Zep;split
  ·rfl
  ·exact Zf6 e2
theorem Zjd {f g:Nat->Int} {o:Nat}: ∀ {k:Nat} {m:List Int},(∀ i,i<k->f i=g i)->ZC f o k m=ZC g o k m
 |0,_,_=>rfl
 |k+1,m,h=>by simp only[ZC];rw[Zjd (fun i hi=>h i (by omega)),h k (by omega)]
theorem Zgq {t:Int} (h:NumL m) (ht: -400000000<=t/\t<=400000000) (hok:Z8 m C i p t=true):ZcD m C i p t=addR m C i p t:=
 Zjd fun k hk=>ZpO h ht (Zcg.1 hok k hk).1 (Zcg.1 hok k hk).2
theorem Zci (hl:m.length=R*C) (hi:i<R):i*C+C<=m.length:=by
 have:(i+1)*C<=R*C:=Nat.mul_le_mul_right _ hi;rw[Nat.add_mul] at this;omega
theorem Zin (h:i<l.length):l.getD i 0∈l:=by
 have e:l.getD i 0=l[i]:=by simp[List.getD,List.getElem?_eq_getElem h]
 rw[e];exact List.getElem_mem h
theorem ZgI {t:Int} (hl:m.length=R*C) (hi:i<R) (h:NumL m) (ht: -400000000<=t/\t<=400000000) (hok:Z8 m C i p t=false):Zah∈ZcD m C i p t:=by
 obtain ⟨k,hk,hno⟩: ∃ k,k<C/\ ¬ (Zl (cell m C p k*t)=true/\Zl (Za4 m C i p t k)=true):=by
  rcases Classical.em (∃ k,k<C/\ ¬ (Zl (cell m C p k*t)=true/\Zl (Za4 m C i p t k)=true)) with h1|h1
  ·exact h1
  ·have:Z8 m C i p t=true:=Zcg.2 fun k hk=>Classical.byContradiction fun h2=>h1 ⟨k,hk,h2⟩;rw[this] at hok;cases hok
 have hle:=Zci hl hi;have e:(ZcD m C i p t).getD (i*C+k) 0=Zah:=by unfold ZcD;rw[Zbc hle,if_pos (by omega),show i*C+k-i*C=k by omega];exact Zq9 h ht hno
 rw[←e];exact Zin (by unfold ZcD;rw[ZL];omega)
theorem Zex {t:Int} (hl:m.length=R*C) (hi:i<R) (hb:Zah∈m):Zah∈ZcD m C i p t:=by
 obtain ⟨q,hq,e⟩:=List.mem_iff_getElem.1 hb;have hle:=Zci hl hi;have e1:m.getD q 0=Zah:=by simp[List.getD,List.getElem?_eq_getElem hq,e]
 have e2:(ZcD m C i p t).getD q 0=Zah:=by
  unfold ZcD;rw[Zbc hle];by_cases h1:i*C<=q/\q<i*C+C
  ·rw[if_pos h1];unfold ZhH;have:cell m C i (q-i*C)=Zah:=(by unfold cell;rw[show i*C+(q-i*C)=q by omega,e1]);rw[this,ZlE]
  ·rw[if_neg h1,e1]
 rw[←e2];exact Zin (by unfold ZcD;rw[ZL];exact hq)
theorem ZfL {d:Int} (hn: -400000000<=n/\n<=400000000) (hd:d≠0): -400000000<=n/d/\n/d<=400000000:=by
 have h1:=Int.emod_nonneg n hd;have h2:=Int.emod_lt n hd;rcases Int.lt_or_gt_of_ne hd with h|h
 ·have e:n/d= -(n/ -d):=by rw[Int.ediv_neg];omega
  have h4:0< -d:=by omega
  have h5:n/ -d<=400000000:=Int.ediv_le_of_le_mul h4 (by
   have:400000000*1<=400000000* -d:=Int.mul_le_mul_of_nonneg_left (by omega) (by omega);omega)
  have h6: -400000000<=n/ -d:=Int.le_ediv_of_mul_le h4 (by
   have:400000000*1<=400000000* -d:=Int.mul_le_mul_of_nonneg_left (by omega) (by omega);rw[Int.neg_mul];omega)
  omega
 ·have h5:n/d<=400000000:=Int.ediv_le_of_le_mul h (by
   have:400000000*1<=400000000*d:=Int.mul_le_mul_of_nonneg_left (by omega) (by omega);omega)
  have h6: -400000000<=n/d:=Int.le_ediv_of_mul_le h (by
   have:400000000*1<=400000000*d:=Int.mul_le_mul_of_nonneg_left (by omega) (by omega);rw[Int.neg_mul];omega)
  exact ⟨h6,h5⟩
structure Hm (C R:Nat) (s:HS):Prop where
 la:s.1.length=R*C
 lu:s.2.length=R*R
 na:NumBL s.1
 nu:NumBL s.2
def ZiO (C R i p:Nat) (t:Int) (s:HS):HS:=(ZcD s.1 C i p t,ZcD s.2 R i p t)
def Mk (s:HS):Prop:=Zah∈s.1\/Zah∈s.2
theorem ZqC {t:Int} (h:Hm C R s) (hi:i<R) (hb:Mk s):Mk (ZiO C R i p t s):=by
 rcases hb with hb|hb
 ·exact .inl (Zex h.la hi hb)
 ·exact .inr (Zex h.lu hi hb)
theorem ZmJ {t:Int} (h:Hs C R s) (hi:i<R) (ht: -400000000<=t/\t<=400000000):(Zb8 C R i p t s=some (ZiO C R i p t s))\/(Zb8 C R i p t s=none/\Mk (ZiO C R i p t s)):=by
 unfold Zb8 ZiO;cases h1:Z8 s.1 C i p t with
 |false=>exact .inr ⟨rfl, .inl (ZgI h.la hi h.na ht h1)⟩
 |true=>
  cases h2:Z8 s.2 R i p t with
  |false=>exact .inr ⟨rfl, .inr (ZgI h.lu hi h.nu ht h2)⟩
  |true=>exact .inl (by rw[Zgq h.na ht h1,Zgq h.nu ht h2];rfl)
theorem Hs.hm (h:Hs C R s):Hm C R s:=⟨h.la,h.lu,h.na.bl,h.nu.bl⟩
theorem Hs.no (h:Hs C R s): ¬ Mk s:=by
 rintro (hb|hb)
 ·exact ZaO (h.na _ hb) rfl
 ·exact ZaO (h.nu _ hb) rfl
structure Ech (C R:Nat) (m:List Int) (j t:Nat):Prop where
 full: ∀ i,i<t-> ∃ k,k<j/\cell m C i k≠0
 zero: ∀ i,t<=i->i<R-> ∀ k,k<j->cell m C i k=0
theorem Zj9 {C R j t:Nat} (hj:j<C): ∀ {n:Nat} {s s':HS} {p p':Nat},Hs C R s->Piv s.1 C R j p t->ZdI C R j t n s p=some (s',p')->
  Hs C R s'/\Piv s'.1 C R j p' t/\ZaS s'.1 C R j p' t=true/\(∀ i' k,k<C->i'<t->cell s'.1 C i' k=cell s.1 C i' k)/\(∀ k,k<C->(∀ i',t<=i'->i'<R->cell s.1 C i' k=0)-> ∀ i',t<=i'->i'<R->cell s'.1 C i' k=0)
 |0,_,_,_,_,_,_,h=>by cases h
 |n+1,s,s',p,p',hs,hv,h=>by
  simp only[ZdI] at h;cases ha:ZaS s.1 C R j p t with
  |true=>rw[ha,if_pos rfl] at h;obtain ⟨rfl,rfl⟩:=Prod.mk.inj (Option.some.inj h);exact ⟨hs,hv,ha,fun _ _ _ _=>rfl,fun k _ hz=>hz⟩
  |false=>
   rw[ha,if_neg (by simp)] at h;cases he:pass C R j p (R-t) t s with
   |none=>rw[he] at h;cases h
   |some s1=>rw[he] at h;obtain ⟨g1,_,g3,_,g5,g6⟩:=Zf9 hj hs hv ha he;obtain ⟨e1,e2,e3,e4,e5⟩:=Zj9 hj g1 g3 (show ZdI C R j t n s1 _=_ from h);exact ⟨e1,e2,e3,fun i' k hk hi=>(e4 i' k hk hi).trans (g5 i' k hk hi),fun k hk hz=>e5 k hk (g6 k hk hz)⟩
theorem Zl2 {C R j t:Nat} (hj:j<C) (ht:t<R): ∀ {n i:Nat} {s s':HS},Hs C R s->i+n<=t->red C R j t n i s=some s'->
  Hs C R s'/\(∀ i' k,k<C->t<=i'->cell s'.1 C i' k=cell s.1 C i' k)/\(∀ i' k,k<C->cell s.1 C t k=0->cell s'.1 C i' k=cell s.1 C i' k)
 |0,i,s,s',h,_,he=>by obtain rfl:=Option.some.inj he;exact ⟨h,fun _ _ _ _=>rfl,fun _ _ _ _=>rfl⟩
 |n+1,i,s,s',h,hn,he=>by
  simp only[red] at he;cases ha:Zb8 C R i t (-(cell s.1 C i j/cell s.1 C t j)) s with
  |none=>rw[ha] at he;cases he
  |some s1=>
   rw[ha] at he;obtain ⟨h1,e1⟩:=ZfO h ha;have hcell: ∀ i' k,k<C->cell s1.1 C i' k=if i'=i then cell s.1 C i k+cell s.1 C t k*(-(cell s.1 C i j/cell s.1 C t j)) else cell s.1 C i' k:=fun i' k hk=>(by rw[e1];exact Za8 h.la (by omega) hk);obtain ⟨g1,g2,g3⟩:=Zl2 hj ht h1 (by omega) (show red C R j t n (i+1) s1=some s' from he);refine ⟨g1,fun i' k hk hi=>by rw[g2 i' k hk hi,hcell i' k hk,if_neg (by omega)],fun i' k hk hz=> ?_⟩;rw[g3 i' k hk (by rw[hcell t k hk,if_neg (by omega)];exact hz),hcell i' k hk];split
   ·rename_i e;subst e;rw[hz];simp
   ·rfl
theorem ZpE (hj:j<C) (ht:t<R) (h:Hs C R s) (hv:Piv s.1 C R j p t) (ha:ZaS s.1 C R j p t=true) (hE:Ech C R s.1 j t) (he:ZjN C R j t p s=some s'):Hs C R s'/\Ech C R s'.1 (j+1) (t+1):=by
 unfold ZjN at he;have hal:=ZeB.1 ha;obtain ⟨h1,f1,z1,a1,n1⟩:Hs C R (Zb6 C R p t s)/\(∀ i k,k<C->i<t->cell (Zb6 C R p t s).1 C i k=cell s.1 C i k)/\(∀ i,t<=i->i<R-> ∀ k,k<j->cell (Zb6 C R p t s).1 C i k=0)/\(∀ i,t<i->i<R->cell (Zb6 C R p t s).1 C i j=0)/\cell (Zb6 C R p t s).1 C t j≠0:=by
  unfold Zb6;by_cases e:p=t
  ·rw[if_pos e];subst e;exact ⟨h,fun _ _ _ _=>rfl,hE.zero,fun i h1 h2=>hal i (by omega) h2 (by omega),hv.ne⟩
  ·rw[if_neg e];have hc: ∀ i k,k<C->cell (sw2 C R p t s).1 C i k=if i=p then cell s.1 C t k else if i=t then cell s.1 C p k else cell s.1 C i k:=fun i k hk=>Ze5 h.la hv.hi ht e hk;have hlo:=hv.lo;have hhi:=hv.hi;refine ⟨Zo6 h,fun i k hk hi=>by rw[hc i k hk,if_neg (by omega),if_neg (by omega)],fun i h1 h2 k hk=> ?_,fun i h1 h2=> ?_, ?_⟩
   ·rw[hc i k (by omega)];split
    ·exact hE.zero t (Nat.le_refl _) ht k hk
    ·split
     ·exact hE.zero p hlo hhi k hk
     ·exact hE.zero i h1 h2 k hk
   ·rw[hc i j hj];split
    ·exact hal t (Nat.le_refl _) ht (by omega)
    ·rw[if_neg (by omega)];exact hal i (by omega) h2 (by omega)
   ·rw[hc t j hj,if_neg (by omega),if_pos rfl];exact hv.ne
 obtain ⟨h2,f2,z2,a2,n2⟩:Hs C R (ZdM C R j t (Zb6 C R p t s))/\(∀ i k,k<C->i<t->cell (ZdM C R j t (Zb6 C R p t s)).1 C i k=cell s.1 C i k)/\(∀ i,t<=i->i<R-> ∀ k,k<j->cell (ZdM C R j t (Zb6 C R p t s)).1 C i k=0)/\(∀ i,t<i->i<R->cell (ZdM C R j t (Zb6 C R p t s)).1 C i j=0)/\cell (ZdM C R j t (Zb6 C R p t s)).1 C t j≠0:=by
  unfold ZdM;split
  ·have hc: ∀ i k,k<C->cell (ZgF C R t (Zb6 C R p t s)).1 C i k=if i=t then -cell (Zb6 C R p t s).1 C t k else cell (Zb6 C R p t s).1 C i k:=fun i k hk=>ZkD h1.la ht hk;refine ⟨Zm4 h1,fun i k hk hi=>by rw[hc i k hk,if_neg (by omega)];exact f1 i k hk hi,fun i h3 h4 k hk=> ?_,fun i h3 h4=>by rw[hc i j hj,if_neg (by omega)];exact a1 i h3 h4, ?_⟩
   ·rw[hc i k (by omega)];split
    ·rw[z1 t (Nat.le_refl _) ht k hk];rfl
    ·exact z1 i h3 h4 k hk
   ·rw[hc t j hj,if_pos rfl];omega
  ·exact ⟨h1,f1,z1,a1,n1⟩
 obtain ⟨g1,g2,g3⟩:=Zl2 hj ht h2 (by omega) he;refine ⟨g1,fun i hi=> ?_,fun i h3 h4 k hk=> ?_⟩
 ·by_cases e:i=t
  ·subst e;exact ⟨j,by omega,by rw[g2 i j hj (Nat.le_refl _)];exact n2⟩
  ·obtain ⟨k,hk,hne⟩:=hE.full i (by omega);exact ⟨k,by omega,by rw[g3 i k (by omega) (z2 t (Nat.le_refl _) ht k hk),f2 i k (by omega) (by omega)];exact hne⟩
 ·rw[g2 i k (by omega) (by omega)];by_cases e:k=j
  ·subst e;exact a2 i (by omega) h4
  ·exact z2 i (by omega) h4 k (by omega)
theorem Zgr {C R:Nat}: ∀ {n j t:Nat} {s s':HS},Hs C R s->j+n=C->t<=R->Ech C R s.1 j t->ZaG C R n j t s=some s'->Hs C R s'/\ ∃ t',t'<=R/\Ech C R s'.1 C t'
 |0,j,t,s,s',h,hj,ht,hE,he=>by
  obtain rfl:=Option.some.inj he;obtain rfl:j=C:=by omega
  exact ⟨h,t,ht,hE⟩
 |n+1,j,t,s,s',h,hj,ht,hE,he=>by
  simp only[ZaG] at he;by_cases hlt:t<R
  ·rw[if_pos hlt] at he;by_cases hl:ZE s.1 C j t (R-t)<0
   ·rw[if_pos hl] at he;refine Zgr h (by omega) ht ⟨fun i hi=> ?_,fun i h1 h2 k hk=> ?_⟩ he
    ·obtain ⟨k,hk,hne⟩:=hE.full i hi;exact ⟨k,by omega,hne⟩
    ·by_cases e:k=j
     ·subst e;rcases ZcT s.1 C k t (R-t) with ⟨_,h3⟩|⟨p,h3,_⟩
      ·have:=h3 (i-t) (by omega)
       rwa [show t+(i-t)=i by omega] at this
      ·omega
     ·exact hE.zero i h1 h2 k (by omega)
   ·rw[if_neg hl] at he;have hv:=Piv.of (m:=s.1) (C:=C) (R:=R) (j:=j) (t:=t) ht (by omega);cases hg:Zeq C R j t s (ZE s.1 C j t (R-t)).toNat with
    |none=>rw[hg] at he;cases he
    |some r=>
     rw[hg] at he;obtain ⟨s1,p1⟩:=r;obtain ⟨g1,g2,g3,g4,g5⟩:=Zj9 (by omega) h hv hg;have hE1:Ech C R s1.1 j t:=⟨fun i hi=>by
      obtain ⟨k,hk,hne⟩:=hE.full i hi;exact ⟨k,hk,by rw[g4 i k (by omega) hi];exact hne⟩,fun i h1 h2 k hk=>g5 k (by omega) (fun i' h3 h4=>hE.zero i' h3 h4 k hk) i h1 h2⟩
     cases hc:ZjN C R j t p1 s1 with
     |none=>simp only[Option.bind_some,hc] at he;cases he
     |some s2=>simp only[Option.bind_some,hc] at he;obtain ⟨q1,q2⟩:=ZpE (by omega) hlt g1 g2 g3 hE1 hc;exact Zgr q1 (by omega) (by omega) q2 he
  ·rw[if_neg hlt] at he;obtain rfl:=Option.some.inj he;exact ⟨h,t,ht,fun i hi=>by
    obtain ⟨k,hk,hne⟩:=hE.full i hi;exact ⟨k,by omega,hne⟩,fun i h1 h2=>by omega⟩
theorem Zb2 (n:Nat):(idL n).length=n*n:=by
 unfold idL;have: ∀ (ks:List Nat) (l:List Int),(ks.foldl (fun l i=>l.set (i*n+i) 1) l).length=l.length:=by
  intro ks;induction ks with
  |nil=>intro l;rfl
  |cons k ks ih=>intro l;simp only[List.foldl_cons];rw[ih];simp
 rw[this];simp
theorem ZbZ (n:Nat):NumL (idL n):=by
 unfold idL;have: ∀ (ks:List Nat) (l:List Int),NumL l->NumL (ks.foldl (fun l i=>l.set (i*n+i) 1) l):=by
  intro ks;induction ks with
  |nil=>intro l h;exact h
  |cons k ks ih=>
   intro l h;refine ih _ fun x hx=> ?_;rcases List.mem_or_eq_of_mem_set hx with hx|rfl
   ·exact h x hx
   ·omega
 refine this _ _ fun x hx=> ?_;rw[(List.mem_replicate.1 hx).2];omega
theorem Zdf (hl:m.length=R*C) (hm:NumL m) (h:Zb7 m R C=some s):Hs C R s/\ ∃ t,t<=R/\Ech C R s.1 C t:=
 Zgr ⟨hl,Zb2 R,hm,ZbZ R⟩ (by omega) (Nat.zero_le _) ⟨fun i hi=>by omega,fun i _ _ k hk=>by omega⟩ h
def nzB (m:List Int) (C i:Nat):Bool:=(List.range C).any fun k=>cell m C i k !=0
theorem Zdg:nzB m C i=true↔ ∃ k,k<C/\cell m C i k≠0:=by
 unfold nzB;rw[List.any_eq_true];constructor
 ·rintro ⟨k,hk,h⟩;exact ⟨k,List.mem_range.1 hk,by simpa using h⟩
 ·rintro ⟨k,hk,h⟩;exact ⟨k,List.mem_range.2 hk,by simpa using h⟩
def Zar (m:List Int) (C:Nat):Nat->Nat
 |0=>0
 |i+1=>if nzB m C i=true then i+1 else Zar m C i
theorem ZiB {C R:Nat} {m:List Int} {t:Nat} (h:Ech C R m C t): ∀ n,n<=R->t<=n->Zar m C n=t
 |0,_,ht=>by simp[Zar];omega
 |n+1,hn,ht=>by
  simp only[Zar];by_cases e:t=n+1
  ·subst e;rw[if_pos (Zdg.2 (h.full n (by omega)))]
  ·rw[if_neg,ZiB h n (by omega) (by omega)];intro hz;obtain ⟨k,hk,hne⟩:=Zdg.1 hz;exact hne (h.zero n (by omega) (by omega) k hk)
theorem Zqi (h:Ech C R m C t) (ht:t<=R):(List.range R).filter (nzB m C)=List.range t:=by
 have e:List.range R=List.range t++List.range' t (R-t):=by rw[List.range_eq_range',List.range_eq_range',show (0:Nat)=0 from rfl];have:=List.range'_append (s:=0) (m:=t) (n:=R-t) (step:=1);simp at this;rw[this];congr 1;omega
 rw[e,List.filter_append];have h1:(List.range t).filter (nzB m C)=List.range t:=List.filter_eq_self.2 fun i hi=>Zdg.2 (h.full i (List.mem_range.1 hi));have h2:(List.range' t (R-t)).filter (nzB m C)=[]:=List.filter_eq_nil_iff.2 fun i hi hz=>by rw[List.mem_range'_1] at hi;obtain ⟨k,hk,hne⟩:=Zdg.1 hz;exact hne (h.zero i (by omega) (by omega) k hk)
 rw[h1,h2,List.append_nil]
def Z6 (m:List Int) (C i:Nat):List Int:=(m.drop (i*C)).take C
theorem Zhj {m:List Int} {C:Nat}: ∀ {t:Nat},t*C<=m.length->((List.range t).map (Z6 m C)).flatten=m.take (t*C)
 |0,_=>by simp
 |t+1,h=>by rw[Nat.add_mul,Nat.one_mul] at h ⊢;rw[List.range_succ,List.map_append,List.flatten_append,Zhj (by omega)];simp only[List.map_cons,List.map_nil,List.flatten_cons,List.flatten_nil,List.append_nil];unfold Z6;rw[List.take_add]

end Go.Proofs.YtjpcgofidijigaaGreatDoor
