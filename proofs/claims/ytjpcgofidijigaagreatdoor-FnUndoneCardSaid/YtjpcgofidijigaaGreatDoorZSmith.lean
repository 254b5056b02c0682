/- The Smith form, as plain Lean: cells row by row, the three matrices together; nothing where a number is beyond the limit. -/
import Derived.Test.YtjpcgofidijigaaGreatDoorZHermF
namespace Go.Proofs.YtjpcgofidijigaaGreatDoor
open Go.RowKit
variable {C R c i j p r:Nat} {a t:Int} {b:Int×Int} {f:Nat->Nat->Int} {m:List Int} {seen:Nat->Nat->Prop}
def tab (R C:Nat) (f:Nat->Nat->Int):List Int:=(List.range (R*C)).map fun k=>f (k/C) (k%C)
theorem ZcL (R C:Nat) (f:Nat->Nat->Int):(tab R C f).length=R*C:=by simp[tab]
theorem Zdd (hi:i<R) (hj:j<C):cell (tab R C f) C i j=f i j:=by
 have h:=Zr hj hi;unfold cell tab;rw[List.getD_eq_getElem?_getD,List.getElem?_map,List.getElem?_range h];simp only[Option.map_some,Option.getD_some];rw[show i*C+j=j+C*i by rw[Nat.mul_comm];omega,Nat.add_mul_div_left _ _ (by omega),Nat.add_mul_mod_self_left,Nat.div_eq_of_lt hj,Nat.mod_eq_of_lt hj,Nat.zero_add]
theorem Zda {L M:List Int} (hl:L.length=R*C) (hm:M.length=R*C) (h: ∀ i j,i<R->j<C->cell L C i j=cell M C i j):L=M:=by
 refine List.ext_getElem (by omega) fun k h1 h2=> ?_;have hC:0<C:=by
  rcases Nat.eq_zero_or_pos C with e|e
  ·subst e;simp at hl;subst hl;simp at h1
  ·exact e
 have hk:k<R*C:=by omega
 have hi:k/C<R:=Nat.div_lt_of_lt_mul (by rw[Nat.mul_comm];exact hk);have:=h (k/C) (k%C) hi (Nat.mod_lt _ hC);unfold cell at this;rw[show k/C*C+k%C=k by rw[Nat.mul_comm];exact Nat.div_add_mod k C] at this;simpa [List.getD,List.getElem?_eq_getElem h1,List.getElem?_eq_getElem h2] using this
theorem ZjT (h: ∀ i j,i<R->j<C-> -400000000<=f i j/\f i j<=400000000):NumL (tab R C f):=fun x hx=>by
 obtain ⟨k,hk,rfl⟩:=List.mem_map.1 hx;have hk:=List.mem_range.1 hk;have hC:0<C:=by
  rcases Nat.eq_zero_or_pos C with e|e
  ·subst e;simp at hk
  ·exact e
 exact h _ _ (Nat.div_lt_of_lt_mul (by rw[Nat.mul_comm];exact hk)) (Nat.mod_lt _ hC)
def trL (m:List Int) (R C:Nat):List Int:=tab C R fun j i=>cell m C i j
theorem ZaP (m:List Int) (R C:Nat):(trL m R C).length=C*R:=ZcL _ _ _
theorem Zbd (hi:i<R) (hj:j<C):cell (trL m R C) R j i=cell m C i j:=Zdd hj hi
theorem Zdh (h:NumL m):NumL (trL m R C):=ZjT fun _ _ _ _=>Zo h _ _ _
def Zbh (m:List Int) (C R i p:Nat) (t:Int):Bool:=(List.range R).all fun r=>Zl (cell m C r p*t)&&Zl (cell m C r i+cell m C r p*t)
def Zd3 (m:List Int) (C R i p:Nat) (t:Int):List Int:=tab R C fun r c=>if c=i then cell m C r i+cell m C r p*t else cell m C r c
def ZiD (m:List Int) (C R i p:Nat):List Int:=tab R C fun r c=>if c=i then cell m C r p else if c=p then cell m C r i else cell m C r c
theorem Zho (m:List Int) (C R i p:Nat) (t:Int):(Zd3 m C R i p t).length=R*C:=ZcL _ _ _
theorem Zlv (m:List Int) (C R i p:Nat):(ZiD m C R i p).length=R*C:=ZcL _ _ _
theorem Zfq (hr:r<R) (hc:c<C):cell (Zd3 m C R i p t) C r c=if c=i then cell m C r i+cell m C r p*t else cell m C r c:=Zdd hr hc
theorem Zez:Zbh m C R i p t=true↔ ∀ r,r<R->Zl (cell m C r p*t)=true/\Zl (cell m C r i+cell m C r p*t)=true:=by
 unfold Zbh;rw[List.all_eq_true];constructor
 ·intro h k hk;have:=h k (List.mem_range.2 hk)
  rwa [Bool.and_eq_true] at this
 ·intro h k hk;have:=h k (List.mem_range.1 hk)
  rwa [Bool.and_eq_true]
theorem Zku (h:NumL m) (hok:Zbh m C R i p t=true):NumL (Zd3 m C R i p t):=ZjT fun r c hr _=>by
 split
 ·exact ZI.1 (Zez.1 hok r hr).2
 ·exact Zo h _ _ _
theorem Zlm (h:NumL m):NumL (ZiD m C R i p):=ZjT fun r c _ _=>by
 split
 ·exact Zo h _ _ _
 ·split<;>exact Zo h _ _ _
theorem Zf7 (hi:i<C) (hp:p<C):Z8 (trL m R C) R i p t=Zbh m C R i p t:=by
 rw[Bool.eq_iff_iff,Zcg,Zez];constructor
 ·intro h k hk;have:=h k hk;unfold Za4 at this
  rwa [Zbd hk hp,Zbd hk hi] at this
 ·intro h k hk;unfold Za4;rw[Zbd hk hp,Zbd hk hi];exact h k hk
theorem ZhL (hi:i<C) (hp:p<C):trL (addR (trL m R C) R i p t) C R=Zd3 m C R i p t:=
 Zda (ZcL _ _ _) (ZcL _ _ _) fun r c hr hc=>by
  rw[Zbd hc hr,Za8 (ZaP _ _ _) hi hr,Zd3,Zdd hr hc];split
  ·rw[Zbd hr hi,Zbd hr hp]
  ·rw[Zbd hr hc]
theorem Zi3 (hi:i<C) (hp:p<C) (hip:i≠p):trL (swR (trL m R C) R i p) C R=ZiD m C R i p:=
 Zda (ZcL _ _ _) (ZcL _ _ _) fun r c hr hc=>by
  rw[Zbd hc hr,Ze5 (ZaP _ _ _) hi hp hip hr,ZiD,Zdd hr hc];split
  ·rw[Zbd hr hp]
  ·split
   ·rw[Zbd hr hi]
   ·rw[Zbd hr hc]
abbrev SS:=List Int×List Int×List Int
variable {s s':SS}
structure Ss (C R:Nat) (s:SS):Prop where
 la:s.1.length=R*C
 lu:s.2.1.length=R*R
 lv:s.2.2.length=C*C
 na:NumL s.1
 nu:NumL s.2.1
 nv:NumL s.2.2
def ZaF (C R i p:Nat) (t:Int) (s:SS):Option SS:=if Z8 s.1 C i p t&&Z8 s.2.1 R i p t then some (addR s.1 C i p t,addR s.2.1 R i p t,s.2.2) else none
def Zc7 (C R p t:Nat) (s:SS):SS:=(swR s.1 C p t,swR s.2.1 R p t,s.2.2)
def ZhZ (C R t:Nat) (s:SS):SS:=(Zdv s.1 C t,Zdv s.2.1 R t,s.2.2)
def Zbm (C R i p:Nat) (t:Int) (s:SS):Option SS:=if Zbh s.1 C R i p t&&Zbh s.2.2 C C i p t then some (Zd3 s.1 C R i p t,s.2.1,Zd3 s.2.2 C C i p t) else none
def ZiA (C R i p:Nat) (s:SS):SS:=(ZiD s.1 C R i p,s.2.1,ZiD s.2.2 C C i p)
theorem ZdR (h:Ss C R s) (he:ZaF C R i p t s=some s'):Ss C R s'/\s'=(addR s.1 C i p t,addR s.2.1 R i p t,s.2.2):=by
 unfold ZaF at he;split at he
 ·rename_i hok;rw[Bool.and_eq_true] at hok;obtain rfl:=Option.some.inj he;exact ⟨⟨by simp[addR,ZL,h.la],by simp[addR,ZL,h.lu],h.lv,Zcw h.na hok.1,Zcw h.nu hok.2,h.nv⟩,rfl⟩
 ·cases he
theorem ZfR {t:Nat} (h:Ss C R s):Ss C R (Zc7 C R p t s):=⟨by simp[Zc7,swR,Zbe,h.la],by simp[Zc7,swR,Zbe,h.lu],h.lv,Zb4 h.na _,Zb4 h.nu _,h.nv⟩
theorem Zmf {t:Nat} (h:Ss C R s):Ss C R (ZhZ C R t s):=⟨by simp[ZhZ,Zdv,ZL,h.la],by simp[ZhZ,Zdv,ZL,h.lu],h.lv,Zgs h.na,Zgs h.nu,h.nv⟩
theorem ZgC (h:Ss C R s) (he:Zbm C R i p t s=some s'):Ss C R s'/\s'=(Zd3 s.1 C R i p t,s.2.1,Zd3 s.2.2 C C i p t):=by
 unfold Zbm at he;split at he
 ·rename_i hok;rw[Bool.and_eq_true] at hok;obtain rfl:=Option.some.inj he;exact ⟨⟨Zho _ _ _ _ _ _,h.lu,Zho _ _ _ _ _ _,Zku h.na hok.1,h.nu,Zku h.nv hok.2⟩,rfl⟩
 ·cases he
theorem ZhS (h:Ss C R s):Ss C R (ZiA C R i p s):=⟨Zlv _ _ _ _ _,h.lu,Zlv _ _ _ _ _,Zlm h.na,h.nu,Zlm h.nv⟩
def ZbQ (m:List Int) (C:Nat) (b:Int×Int) (i j:Nat):Bool:=decide (cell m C i j≠0)&&(decide (b.1<0)||decide ((cell m C i j).natAbs<(cell m C b.1.toNat b.2.toNat).natAbs))
def lsJ (m:List Int) (C t i:Nat):Nat->Int×Int->Int×Int
 |0,b=>b
 |n+1,b=>if ZbQ m C (lsJ m C t i n b) i (t+n)=true then ((i:Int),((t+n:Nat):Int)) else lsJ m C t i n b
def lsI (m:List Int) (C t:Nat):Nat->Int×Int
 |0=>(-1, -1)
 |n+1=>lsJ m C t (t+n) (C-t) (lsI m C t n)
def Zab (m:List Int) (C R t:Nat):Int×Int:=lsI m C t (R-t)
def LsOk (m:List Int) (C R t:Nat) (seen:Nat->Nat->Prop) (b:Int×Int):Prop:=
 (b=(-1, -1)/\ ∀ i j,seen i j->cell m C i j=0)\/ ∃ r c:Nat,b=((r:Int),(c:Int))/\t<=r/\r<R/\t<=c/\c<C/\cell m C r c≠0/\(∀ i j,seen i j->cell m C i j≠0->(cell m C r c).natAbs<=(cell m C i j).natAbs)/\
  (seen t t->cell m C t t≠0->(cell m C t t).natAbs<=(cell m C r c).natAbs->r=t/\c=t)
theorem LsOk.step {t:Nat} (h:LsOk m C R t seen b) (hi:t<=i/\i<R) (hj:t<=j/\j<C) (hf:(i=t/\j=t)->b=(-1, -1)) (hs:(i,j)≠(t,t)->(seen t t)):
  LsOk m C R t (fun i' j'=>seen i' j'\/(i'=i/\j'=j)) (if ZbQ m C b i j=true then ((i:Int),(j:Int)) else b):=by
 by_cases hz:cell m C i j=0
 ·have hb:ZbQ m C b i j=false:=by unfold ZbQ;rw[decide_eq_false (by simp[hz])];rfl
  rw[hb];simp only[Bool.false_eq_true,if_false];rcases h with ⟨h1,h2⟩|⟨r,c,h1,h2,h3,h4,h5,h6,h7,h8⟩
  ·exact .inl ⟨h1,fun i' j' h=>h.elim (h2 i' j') (fun e=>by rw[e.1,e.2];exact hz)⟩
  ·refine .inr ⟨r,c,h1,h2,h3,h4,h5,h6,fun i' j' h hne=>h.elim (fun h=>h7 i' j' h hne) (fun e=>by rw[e.1,e.2] at hne;exact (hne hz).elim),fun h hne hle=> ?_⟩;rcases h with h|⟨e1,e2⟩
   ·exact h8 h hne hle
   ·subst e1;subst e2;exact (hne hz).elim
 ·rcases h with ⟨h1,h2⟩|⟨r,c,h1,h2,h3,h4,h5,h6,h7,h8⟩
  ·have hb:ZbQ m C b i j=true:=(by unfold ZbQ;rw[h1,decide_eq_true hz];rfl);rw[hb,if_pos rfl];refine .inr ⟨i,j,rfl,hi.1,hi.2,hj.1,hj.2,hz,fun i' j' h hne=> ?_,fun h hne hle=> ?_⟩
   ·rcases h with h|⟨e1,e2⟩
    ·exact (hne (h2 i' j' h)).elim
    ·rw[e1,e2];exact Nat.le_refl _
   ·rcases h with h|⟨e1,e2⟩
    ·exact (hne (h2 t t h)).elim
    ·exact ⟨e1.symm,e2.symm⟩
  ·have hnf: ¬ (i=t/\j=t):=fun e=>(by have:=hf e;rw[h1] at this;have:=congrArg Prod.fst this;simp at this);have hst:seen t t:=hs (fun e=>hnf ⟨congrArg Prod.fst e,congrArg Prod.snd e⟩);have hbe:ZbQ m C b i j=decide ((cell m C i j).natAbs<(cell m C r c).natAbs):=(by unfold ZbQ;rw[h1,decide_eq_true hz,decide_eq_false (by simp)];simp);rw[hbe];by_cases hlt:(cell m C i j).natAbs<(cell m C r c).natAbs
   ·rw[decide_eq_true hlt,if_pos rfl];refine .inr ⟨i,j,rfl,hi.1,hi.2,hj.1,hj.2,hz,fun i' j' h hne=> ?_,fun h hne hle=> ?_⟩
    ·rcases h with h|⟨e1,e2⟩
     ·have:=h7 i' j' h hne;omega
     ·rw[e1,e2];exact Nat.le_refl _
    ·have:=h7 t t hst hne;omega
   ·rw[decide_eq_false hlt];simp only[Bool.false_eq_true,if_false];refine .inr ⟨r,c,h1,h2,h3,h4,h5,h6,fun i' j' h hne=> ?_,fun h hne hle=>h8 hst hne hle⟩;rcases h with h|⟨e1,e2⟩
    ·exact h7 i' j' h hne
    ·rw[e1,e2];omega
theorem LsOk.congr {t:Nat} {seen':Nat->Nat->Prop} (h:LsOk m C R t seen b) (he: ∀ i j,seen i j↔seen' i j):LsOk m C R t seen' b:=by
 have:seen=seen':=funext fun i=>funext fun j=>propext (he i j);rw[←this];exact h
def Zfb (C t i j:Nat) (i' j':Nat):Prop:=t<=i'/\t<=j'/\((i'<i/\j'<C)\/(i'=i/\j'<j))
theorem Zom {m:List Int} {C R t i:Nat} {b:Int×Int} (hi:t<=i/\i<R) (h0:i=t->b=(-1, -1)) (h:LsOk m C R t (Zfb C t i t) b) (hC:i≠t->t<C): ∀ n,t+n<=C->LsOk m C R t (Zfb C t i (t+n)) (lsJ m C t i n b)
 |0,_=>by simpa [lsJ] using h
 |n+1,hn=>by
  have ih:=Zom hi h0 h hC n (by omega);simp only[lsJ];refine (LsOk.step (i:=i) (j:=t+n) ih hi ⟨by omega,by omega⟩ (fun e=> ?_) (fun e=> ?_)).congr (fun i' j'=> ?_)
  ·obtain ⟨e1,e2⟩:=e;have hn0:n=0:=(by omega);subst hn0;simp only[lsJ];exact h0 e1
  ·refine ⟨Nat.le_refl _,Nat.le_refl _, ?_⟩;by_cases e1:i=t
   ·refine .inr ⟨e1.symm, ?_⟩;rcases Nat.eq_zero_or_pos n with e2|e2
    ·exact (e (by rw[e1,e2];rfl)).elim
    ·omega
   ·exact .inl ⟨by omega,hC e1⟩
  ·unfold Zfb;constructor
   ·rintro (⟨h1,h2,h3⟩|⟨e1,e2⟩)
    ·exact ⟨h1,h2,by omega⟩
    ·exact ⟨by omega,by omega, .inr ⟨e1,by omega⟩⟩
   ·rintro ⟨h1,h2,h3⟩;by_cases e:i'=i/\j'=t+n
    ·exact .inr e
    ·refine .inl ⟨h1,h2, ?_⟩;rcases h3 with h3|⟨e1,h3⟩
     ·exact .inl h3
     ·exact .inr ⟨e1,by
       have:j'≠t+n:=fun e2=>e ⟨e1,e2⟩;omega⟩
theorem ZpC {m:List Int} {C R t:Nat} (htC:t<=C): ∀ n,t+n<=R->LsOk m C R t (Zfb C t (t+n) t) (lsI m C t n)/\(n=0->lsI m C t n=(-1, -1))
 |0,_=>⟨.inl ⟨rfl,fun i j h=>by unfold Zfb at h;omega⟩,fun _=>rfl⟩
 |n+1,hn=>by
  obtain ⟨ih,ih0⟩:=ZpC (m:=m) (R:=R) htC n (by omega);refine ⟨?_,fun h=>by omega⟩;simp only[lsI];by_cases hC:t<C
  ·have:=Zom (m:=m) (C:=C) (R:=R) (t:=t) (i:=t+n) ⟨by omega,by omega⟩ (fun e=>ih0 (by omega)) ih (fun _=>hC) (C-t) (by omega);refine this.congr fun i' j'=> ?_;unfold Zfb;constructor
   ·rintro ⟨h1,h2,h3⟩;exact ⟨h1,h2,by omega⟩
   ·rintro ⟨h1,h2,h3⟩;exact ⟨h1,h2,by omega⟩
  ·have e:C-t=0:=(by omega);rw[e];simp only[lsJ];refine ih.congr fun i' j'=> ?_;unfold Zfb;constructor
   ·rintro ⟨h1,h2,h3⟩;exact ⟨h1,h2,by omega⟩
   ·rintro ⟨h1,h2,h3⟩;exact ⟨h1,h2,by omega⟩
theorem Zhr (m:List Int) {t:Nat} (hR:t<=R) (hC:t<=C):LsOk m C R t (fun i j=>t<=i/\i<R/\t<=j/\j<C) (Zab m C R t):=by
 refine (ZpC (m:=m) (R:=R) hC (R-t) (by omega)).1.congr fun i j=> ?_;unfold Zfb;constructor
 ·rintro ⟨h1,h2,h3⟩;omega
 ·rintro ⟨h1,h2,h3,h4⟩;exact ⟨h1,h3,by omega⟩
def Zd2 (C R t:Nat):Nat->Nat->SS->Option SS
 |0,_,s=>some s
 |n+1,i,s=>if cell s.1 C i t≠0 then (ZaF C R i t (-(cell s.1 C i t/cell s.1 C t t)) s).bind (Zd2 C R t n (i+1)) else Zd2 C R t n (i+1) s
def Zd1 (C R t:Nat):Nat->Nat->SS->Option SS
 |0,_,s=>some s
 |n+1,j,s=>if cell s.1 C t j≠0 then (Zbm C R j t (-(cell s.1 C t j/cell s.1 C t t)) s).bind (Zd1 C R t n (j+1)) else Zd1 C R t n (j+1) s
theorem Zmo (x p:Int):x+p*(-(x/p))=x%p:=by
 have:=Int.emod_def x p;rw[Int.mul_neg];omega
theorem Zgj {C R t:Nat} (ht:t<R) (htC:t<C): ∀ {n i:Nat} {s s':SS},Ss C R s->t<i->i+n<=R->cell s.1 C t t≠0->Zd2 C R t n i s=some s'->
  Ss C R s'/\(∀ k,k<C->cell s'.1 C t k=cell s.1 C t k)/\(∀ i',i<=i'->i'<i+n->0<=cell s'.1 C i' t/\(cell s'.1 C i' t).natAbs<(cell s.1 C t t).natAbs)/\(∀ i' k,k<C->i'<i\/i+n<=i'->cell s'.1 C i' k=cell s.1 C i' k)
 |0,i,s,s',h,_,_,_,he=>by obtain rfl:=Option.some.inj he;exact ⟨h,fun _ _=>rfl,fun _ _ _=>by omega,fun _ _ _ _=>rfl⟩
 |n+1,i,s,s',h,hi,hn,hne,he=>by
  simp only[Zd2] at he;by_cases hc:cell s.1 C i t=0
  ·rw[if_neg (by simp[hc])] at he;obtain ⟨g1,g2,g3,g4⟩:=Zgj ht htC h (by omega) (by omega) hne he;refine ⟨g1,g2,fun i' h2 h3=> ?_,fun i' k hk h2=>g4 i' k hk (by omega)⟩;by_cases e:i'=i
   ·subst e;rw[g4 i' t htC (.inl (by omega)),hc];have:(cell s.1 C t t).natAbs≠0:=(by omega);exact ⟨by omega,by simp;omega⟩
   ·exact g3 i' (by omega) (by omega)
  ·rw[if_pos hc] at he;cases ha:ZaF C R i t (-(cell s.1 C i t/cell s.1 C t t)) s with
   |none=>rw[ha] at he;cases he
   |some s1=>
    rw[ha] at he;obtain ⟨h1,e1⟩:=ZdR h ha;have hcell: ∀ i' k,k<C->cell s1.1 C i' k=if i'=i then cell s.1 C i k+cell s.1 C t k*(-(cell s.1 C i t/cell s.1 C t t)) else cell s.1 C i' k:=fun i' k hk=>(by rw[e1];exact Za8 h.la (by omega) hk);have htk: ∀ k,k<C->cell s1.1 C t k=cell s.1 C t k:=fun k hk=>(by rw[hcell t k hk,if_neg (by omega)]);obtain ⟨g1,g2,g3,g4⟩:=Zgj ht htC h1 (by omega) (by omega) (by rw[htk t htC];exact hne) (show Zd2 C R t n (i+1) s1=some s' from he);refine ⟨g1,fun k hk=>by rw[g2 k hk,htk k hk],fun i' h2 h3=> ?_,fun i' k hk h2=> ?_⟩
    ·by_cases e:i'=i
     ·subst e;rw[g4 i' t htC (.inl (by omega)),hcell i' t htC,if_pos rfl,Zmo];have h5:=Int.emod_nonneg (cell s.1 C i' t) hne;have h6:=Int.emod_lt (cell s.1 C i' t) hne;omega
     ·have:=g3 i' (by omega) (by omega);rw[htk t htC] at this;exact this
    ·rw[g4 i' k hk (by omega),hcell i' k hk,if_neg (by omega)]
theorem Zgt {C R t:Nat} (ht:t<R) (htC:t<C): ∀ {n j:Nat} {s s':SS},Ss C R s->t<j->j+n<=C->cell s.1 C t t≠0->Zd1 C R t n j s=some s'->
  Ss C R s'/\(∀ r,r<R->cell s'.1 C r t=cell s.1 C r t)/\(∀ j',j<=j'->j'<j+n->cell s'.1 C t j'=cell s.1 C t j'%cell s.1 C t t)/\(∀ r k,r<R->k<C->k<j\/j+n<=k->cell s'.1 C r k=cell s.1 C r k)
 |0,j,s,s',h,_,_,_,he=>by obtain rfl:=Option.some.inj he;exact ⟨h,fun _ _=>rfl,fun _ _ _=>by omega,fun _ _ _ _ _=>rfl⟩
 |n+1,j,s,s',h,hj,hn,hne,he=>by
  simp only[Zd1] at he;by_cases hc:cell s.1 C t j=0
  ·rw[if_neg (by simp[hc])] at he;obtain ⟨g1,g2,g3,g4⟩:=Zgt ht htC h (by omega) (by omega) hne he;refine ⟨g1,g2,fun j' h2 h3=> ?_,fun r k hr hk h2=>g4 r k hr hk (by omega)⟩;by_cases e:j'=j
   ·subst e;rw[g4 t j' ht (by omega) (.inl (by omega)),hc];simp
   ·exact g3 j' (by omega) (by omega)
  ·rw[if_pos hc] at he;cases ha:Zbm C R j t (-(cell s.1 C t j/cell s.1 C t t)) s with
   |none=>rw[ha] at he;cases he
   |some s1=>
    rw[ha] at he;obtain ⟨h1,e1⟩:=ZgC h ha;have hcell: ∀ r k,r<R->k<C->cell s1.1 C r k=if k=j then cell s.1 C r j+cell s.1 C r t*(-(cell s.1 C t j/cell s.1 C t t)) else cell s.1 C r k:=fun r k hr hk=>(by rw[e1];exact Zfq hr hk);have htk: ∀ r,r<R->cell s1.1 C r t=cell s.1 C r t:=fun r hr=>(by rw[hcell r t hr htC,if_neg (by omega)]);obtain ⟨g1,g2,g3,g4⟩:=Zgt ht htC h1 (by omega) (by omega) (by rw[htk t ht];exact hne) (show Zd1 C R t n (j+1) s1=some s' from he);refine ⟨g1,fun r hr=>by rw[g2 r hr,htk r hr],fun j' h2 h3=> ?_,fun r k hr hk h2=> ?_⟩
    ·by_cases e:j'=j
     ·subst e;rw[g4 t j' ht (by omega) (.inl (by omega)),hcell t j' ht (by omega),if_pos rfl,Zmo]
     ·rw[g3 j' (by omega) (by omega),htk t ht,hcell t j' ht (by omega),if_neg e]
    ·rw[g4 r k hr hk (by omega),hcell r k hr hk,if_neg (by omega)]
def ZW (m:List Int) (C R t:Nat):Bool:=(List.range (R-(t+1))).all fun d=>cell m C (t+1+d) t==0
def Zap (m:List Int) (C t:Nat):Bool:=(List.range (C-(t+1))).all fun d=>cell m C t (t+1+d)==0
def ZfT (m:List Int) (C t i:Nat):Bool:=(List.range (C-(t+1))).any fun d=>(cell m C i (t+1+d)).tmod (cell m C t t)!=0
def ZdA (m:List Int) (C R t:Nat):Option Nat:=(List.range (R-(t+1))).find? fun d=>ZfT m C t (t+1+d)
theorem ZgT {t:Nat}:ZW m C R t=true↔ ∀ i,t<i->i<R->cell m C i t=0:=by
 unfold ZW;rw[List.all_eq_true];constructor
 ·intro h i h1 h2;have:=h (i-(t+1)) (List.mem_range.2 (by omega));rw[show t+1+(i-(t+1))=i by omega] at this;simpa using this
 ·intro h d hd;have:=List.mem_range.1 hd;simpa using h (t+1+d) (by omega) (by omega)
theorem Zhn {t:Nat}:Zap m C t=true↔ ∀ j,t<j->j<C->cell m C t j=0:=by
 unfold Zap;rw[List.all_eq_true];constructor
 ·intro h i h1 h2;have:=h (i-(t+1)) (List.mem_range.2 (by omega));rw[show t+1+(i-(t+1))=i by omega] at this;simpa using this
 ·intro h d hd;have:=List.mem_range.1 hd;simpa using h (t+1+d) (by omega) (by omega)
theorem Zf3 {t:Nat}:ZfT m C t i=true↔ ∃ j,t<j/\j<C/\(cell m C i j).tmod (cell m C t t)≠0:=by
 unfold ZfT;rw[List.any_eq_true];constructor
 ·rintro ⟨d,hd,h⟩;have:=List.mem_range.1 hd;exact ⟨t+1+d,by omega,by omega,by simpa using h⟩
 ·rintro ⟨j,h1,h2,h3⟩;refine ⟨j-(t+1),List.mem_range.2 (by omega), ?_⟩;rw[show t+1+(j-(t+1))=j by omega];simpa using h3
def Zp3 (C R t:Nat) (s:SS):Option (SS×Bool):=
 (Zd2 C R t (R-(t+1)) (t+1) s).bind fun s1=>(Zd1 C R t (C-(t+1)) (t+1) s1).bind fun s2=>
  if (ZW s2.1 C R t&&Zap s2.1 C t)=true then (match ZdA s2.1 C R t with
   |some d=>(ZaF C R t (t+1+d) 1 s2).map fun x=>(x,false)
   |none=>some (s2,true)) else some (s2,false)
def Zcb (C R t r c:Nat) (s:SS):SS:=if c=t then (if r=t then s else Zc7 C R r t s) else ZiA C R c t (if r=t then s else Zc7 C R r t s)
def lsR (m:List Int) (C R t:Nat):Nat:=(Zab m C R t).1.toNat
def lsC (m:List Int) (C R t:Nat):Nat:=(Zab m C R t).2.toNat
def rnd (C R t:Nat) (s:SS):Option (SS×Bool):=Zp3 C R t (Zcb C R t (lsR s.1 C R t) (lsC s.1 C R t) s)
def lsA (m:List Int) (C R t:Nat):Nat:=(cell m C (lsR m C R t) (lsC m C R t)).natAbs
def Zg8 (m:List Int) (C R t:Nat):Bool:=(decide (cell m C t t≠0)&&decide ((cell m C t t).natAbs=lsA m C R t))&&(List.range (C-(t+1))).any fun d=>cell m C t (t+1+d)%cell m C t t !=0
def mu3 (m:List Int) (C R t:Nat):Nat:=2*lsA m C R t+(if Zg8 m C R t=true then 0 else 1)
theorem Zlz {t:Nat} (hi:t<=i/\i<R) (hj:t<=j/\j<C) (hne:cell m C i j≠0):0<=(Zab m C R t).1/\lsA m C R t<=(cell m C i j).natAbs:=by
 rcases Zhr m (C:=C) (R:=R) (t:=t) (by omega) (by omega) with ⟨_,h2⟩|⟨r,c,h1,_,_,_,_,_,h7,_⟩
 ·exact (hne (h2 i j ⟨hi.1,hi.2,hj.1,hj.2⟩)).elim
 ·unfold lsA lsR lsC;rw[h1];exact ⟨by simp,by simpa using h7 i j ⟨hi.1,hi.2,hj.1,hj.2⟩ hne⟩
theorem Zqr {t:Nat} (h:Ss C R s):Ss C R (Zcb C R t r c s):=by
 unfold Zcb;split
 ·split
  ·exact h
  ·exact ZfR h
 ·split
  ·exact ZhS h
  ·exact ZhS (ZfR h)
theorem Zjl {t:Nat} (h:Ss C R s) (hr:r<R) (hc:c<C) (ht:t<R) (htC:t<C):cell (Zcb C R t r c s).1 C t t=cell s.1 C r c:=by
 have h1: ∀ k,k<C->cell (if r=t then s else Zc7 C R r t s).1 C t k=cell s.1 C r k:=fun k hk=>by
  by_cases e:r=t
  ·rw[if_pos e,e]
  ·rw[if_neg e,Zc7,Ze5 h.la hr ht e hk,if_neg (fun e2=>e e2.symm),if_pos rfl]
 unfold Zcb;by_cases e:c=t
 ·rw[if_pos e,h1 t htC,e]
 ·rw[if_neg e,ZiA,ZiD,Zdd ht htC,if_neg (fun e2=>e e2.symm),if_pos rfl,h1 c hc]
theorem Zgc {t:Nat} (ht:t<R) (htC:t<C) {b:Bool} (h:Ss C R s) (hp:0<=(Zab s.1 C R t).1) (he:rnd C R t s=some (s',b)):
  Ss C R s'/\(b=false->0<=(Zab s'.1 C R t).1/\mu3 s'.1 C R t<mu3 s.1 C R t):=by
 obtain ⟨r,c,h1,hr1,hr2,hc1,hc2,hne,hmin,hfirst⟩: ∃ r c:Nat,Zab s.1 C R t=((r:Int),(c:Int))/\t<=r/\r<R/\t<=c/\c<C/\cell s.1 C r c≠0/\(∀ i j,(t<=i/\i<R/\t<=j/\j<C)->cell s.1 C i j≠0->(cell s.1 C r c).natAbs<=(cell s.1 C i j).natAbs)/\
   ((t<=t/\t<R/\t<=t/\t<C)->cell s.1 C t t≠0->(cell s.1 C t t).natAbs<=(cell s.1 C r c).natAbs->r=t/\c=t):=by
  rcases Zhr s.1 (C:=C) (R:=R) (t:=t) (by omega) (by omega) with ⟨h0,_⟩|h0
  ·rw[h0] at hp;simp at hp
  ·exact h0
 have hlr:lsR s.1 C R t=r:=by unfold lsR;rw[h1];simp
 have hlc:lsC s.1 C R t=c:=by unfold lsC;rw[h1];simp
 have hla:lsA s.1 C R t=(cell s.1 C r c).natAbs:=by unfold lsA;rw[hlr,hlc]
 unfold rnd at he;rw[hlr,hlc] at he;have h0:=Zqr (t:=t) (r:=r) (c:=c) h;have hpc:=Zjl h hr2 hc2 ht htC;have hfx:r=t->c=t->Zcb C R t r c s=s:=fun e1 e2=>by unfold Zcb;rw[if_pos e2,if_pos e1]
 generalize hs0:Zcb C R t r c s=s0 at *;unfold Zp3 at he;cases hA:Zd2 C R t (R-(t+1)) (t+1) s0 with
 |none=>rw[hA] at he;cases he
 |some s1=>
  rw[hA] at he;simp only[Option.bind_some] at he;obtain ⟨a1,a2,a3,a4⟩:=Zgj ht htC h0 (by omega) (by omega) (by rw[hpc];exact hne) hA;cases hB:Zd1 C R t (C-(t+1)) (t+1) s1 with
  |none=>rw[hB] at he;cases he
  |some s2=>
   rw[hB] at he;simp only[Option.bind_some] at he;have hp1:cell s1.1 C t t=cell s.1 C r c:=(by rw[a2 t htC,hpc]);obtain ⟨b1,b2,b3,b4⟩:=Zgt ht htC a1 (by omega) (by omega) (by rw[hp1];exact hne) hB;have hp2:cell s2.1 C t t=cell s.1 C r c:=(by rw[b2 t ht,hp1]);have hdn:(cell s.1 C r c).natAbs≠0:=(by omega);have small: ∀ i j,(t<=i/\i<R)->(t<=j/\j<C)->cell s2.1 C i j≠0->(cell s2.1 C i j).natAbs<(cell s.1 C r c).natAbs->0<=(Zab s2.1 C R t).1/\mu3 s2.1 C R t<mu3 s.1 C R t:=fun i j hi hj hn hlt=>(by obtain ⟨q1,q2⟩:=Zlz hi hj hn;refine ⟨q1, ?_⟩;unfold mu3;rw[hla];split<;>split<;>omega);have unclean:(ZW s2.1 C R t&&Zap s2.1 C t)=false->0<=(Zab s2.1 C R t).1/\mu3 s2.1 C R t<mu3 s.1 C R t:=fun hcl=>by
    rw[Bool.and_eq_false_iff] at hcl;rcases hcl with hcl|hcl
    ·obtain ⟨i,hi1,hi2,hi3⟩: ∃ i,t<i/\i<R/\cell s2.1 C i t≠0:=by
      rcases Classical.em (∃ i,t<i/\i<R/\cell s2.1 C i t≠0) with hx|hx
      ·exact hx
      ·have:ZW s2.1 C R t=true:=ZgT.2 fun i q1 q2=>Classical.byContradiction fun q3=>hx ⟨i,q1,q2,q3⟩;rw[this] at hcl;cases hcl
     have h5:=(a3 i (by omega) (by omega)).2;rw[hpc] at h5;exact small i t ⟨by omega,hi2⟩ ⟨Nat.le_refl _,htC⟩ hi3 (by rw[b2 i hi2];exact h5)
    ·obtain ⟨j,hj1,hj2,hj3⟩: ∃ j,t<j/\j<C/\cell s2.1 C t j≠0:=by
      rcases Classical.em (∃ j,t<j/\j<C/\cell s2.1 C t j≠0) with hx|hx
      ·exact hx
      ·have:Zap s2.1 C t=true:=Zhn.2 fun i q1 q2=>Classical.byContradiction fun q3=>hx ⟨i,q1,q2,q3⟩;rw[this] at hcl;cases hcl
     refine small t j ⟨Nat.le_refl _,ht⟩ ⟨by omega,hj2⟩ hj3 ?_;rw[b3 j (by omega) (by omega),hp1];have h5:=Int.emod_nonneg (cell s1.1 C t j) hne;have h6:=Int.emod_lt (cell s1.1 C t j) hne;omega
   cases hcl:(ZW s2.1 C R t&&Zap s2.1 C t) with
   |false=>rw[hcl] at he;simp only[Bool.false_eq_true,if_false,Option.some.injEq,Prod.mk.injEq] at he;obtain ⟨rfl,rfl⟩:=he;exact ⟨b1,fun _=>unclean hcl⟩
   |true=>
    rw[hcl] at he;simp only[if_true] at he;have hcl2:=hcl;rw[Bool.and_eq_true] at hcl2;have hcc:=ZgT.1 hcl2.1;have hrc:=Zhn.1 hcl2.2;have hnd:Zg8 s.1 C R t=false:=(by rw[Bool.eq_false_iff];intro hd;unfold Zg8 at hd;simp only[Bool.and_eq_true,decide_eq_true_eq,List.any_eq_true] at hd;obtain ⟨⟨hd1,hd2⟩,d,hdr,hd3⟩:=hd;have hdr:=List.mem_range.1 hdr;obtain ⟨e1,e2⟩:=hfirst ⟨Nat.le_refl _,ht,Nat.le_refl _,htC⟩ hd1 (by rw[hd2,hla];exact Nat.le_refl _);have e3:=hfx e1 e2;have hz:=hrc (t+1+d) (by omega) (by omega);rw[b3 (t+1+d) (by omega) (by omega),a2 _ (by omega),a2 t htC,e3] at hz;simp[hz] at hd3);cases hdv:ZdA s2.1 C R t with
    |none=>rw[hdv] at he;simp only[Option.some.injEq,Prod.mk.injEq] at he;obtain ⟨rfl,rfl⟩:=he;exact ⟨b1,fun h=>by cases h⟩
    |some d=>
     rw[hdv] at he;simp only[Option.map_eq_some_iff,Prod.mk.injEq] at he;obtain ⟨s3,hs3,rfl,rfl⟩:=he;obtain ⟨c1,e3⟩:=ZdR b1 hs3;refine ⟨c1,fun _=> ?_⟩;unfold ZdA at hdv;have hdr:=List.mem_range.1 (List.mem_of_find?_eq_some hdv);have hbad:=List.find?_some hdv;obtain ⟨j,hj1,hj2,hj3⟩:=Zf3.1 hbad;have hcell: ∀ k,k<C->cell s3.1 C t k=cell s2.1 C t k+cell s2.1 C (t+1+d) k*1:=fun k hk=>(by rw[e3];simp only;rw[Za8 b1.la ht hk,if_pos rfl]);have htt:cell s3.1 C t t=cell s.1 C r c:=(by rw[hcell t htC,hcc (t+1+d) (by omega) (by omega),hp2];simp);have htj:cell s3.1 C t j=cell s2.1 C (t+1+d) j:=(by rw[hcell j hj2,hrc j hj1 hj2];simp);obtain ⟨q1,q2⟩:=Zlz (m:=s3.1) (R:=R) ⟨Nat.le_refl t,ht⟩ ⟨Nat.le_refl t,htC⟩ (by rw[htt];exact hne);refine ⟨q1, ?_⟩;rw[htt] at q2;unfold mu3;rw[hnd,hla];by_cases hq:lsA s3.1 C R t=(cell s.1 C r c).natAbs
     ·have hdd:Zg8 s3.1 C R t=true:=(by unfold Zg8;simp only[Bool.and_eq_true,decide_eq_true_eq,List.any_eq_true];refine ⟨⟨by rw[htt];exact hne,by rw[htt,hq]⟩,j-(t+1),List.mem_range.2 (by omega), ?_⟩;rw[show t+1+(j-(t+1))=j by omega,htj,htt];rw[hp2] at hj3;simp only[bne_iff_ne,ne_eq];intro hx;exact hj3 (Int.tmod_eq_zero_of_dvd (Int.dvd_of_emod_eq_zero hx)));rw[hdd,hq];simp
     ·simp only[Bool.false_eq_true,if_false];split<;>omega
def Zc4 (C R t:Nat):Nat->SS->Option SS
 |0,_=>none
 |n+1,s=>(rnd C R t s).bind fun x=>if x.2=true then some x.1 else Zc4 C R t n x.1
theorem Zi6 {C R t:Nat} (ht:t<R) (htC:t<C): ∀ {n m:Nat} {s:SS},Ss C R s->0<=(Zab s.1 C R t).1->mu3 s.1 C R t<n->mu3 s.1 C R t<m->Zc4 C R t n s=Zc4 C R t m s
 |0,_,_,_,_,h,_=>by omega
 |_,0,_,_,_,_,h=>by omega
 |n+1,m+1,s,hs,hp,hn,hm=>by
  simp only[Zc4];cases hr:rnd C R t s with
  |none=>rfl
  |some x=>
   obtain ⟨s',b⟩:=x;obtain ⟨g1,g2⟩:=Zgc ht htC hs hp hr;cases b with
   |true=>rfl
   |false=>obtain ⟨g3,g4⟩:=g2 rfl;simp only[Option.bind_some,Bool.false_eq_true,if_false];exact Zi6 ht htC g1 g3 (by omega) (by omega)
def sA (C R t:Nat) (s:SS):Option SS:=Zc4 C R t (mu3 s.1 C R t+1) s
theorem ZrS {t:Nat} (h:rnd C R t s=none):sA C R t s=none:=by
 unfold sA;simp only[Zc4,h];rfl
theorem Zsa {t:Nat} (h:rnd C R t s=some (s',true)):sA C R t s=some s':=by
 unfold sA;simp only[Zc4,h];rfl
theorem Zrx {t:Nat} (ht:t<R) (htC:t<C) (hs:Ss C R s) (hp:0<=(Zab s.1 C R t).1) (h:rnd C R t s=some (s',false)):sA C R t s=sA C R t s':=by
 obtain ⟨g1,g2⟩:=Zgc ht htC hs hp h;obtain ⟨g3,g4⟩:=g2 rfl;unfold sA;rw[show Zc4 C R t (mu3 s.1 C R t+1) s=Zc4 C R t (mu3 s.1 C R t) s' by simp only[Zc4,h];rfl];exact Zi6 ht htC g1 g3 g4 (by omega)
def ZfC (C R t:Nat) (s:SS):SS:=if cell s.1 C t t<0 then ZhZ C R t s else s
def ZdB (C R:Nat):Nat->Nat->SS->Option SS
 |0,_,s=>some s
 |n+1,t,s=>if (Zab s.1 C R t).1<0 then some s else (sA C R t s).bind fun s'=>ZdB C R n (t+1) (ZfC C R t s')
def ZcM (m:List Int) (R C:Nat):Option SS:=ZdB C R (min R C) 0 (m,idL R,idL C)
theorem Zrj {t:Nat} (h:Ss C R s):Ss C R (ZfC C R t s):=by
 unfold ZfC;split
 ·exact Zmf h
 ·exact h
theorem Zlf {C R t:Nat} (ht:t<R) (htC:t<C): ∀ {n:Nat} {s s':SS},Ss C R s->0<=(Zab s.1 C R t).1->Zc4 C R t n s=some s'->Ss C R s'
 |0,_,_,_,_,h=>by cases h
 |n+1,s,s',hs,hp,h=>by
  simp only[Zc4] at h;cases hr:rnd C R t s with
  |none=>rw[hr] at h;cases h
  |some x=>
   obtain ⟨s1,b⟩:=x;obtain ⟨g1,g2⟩:=Zgc ht htC hs hp hr;rw[hr] at h;cases b with
   |true=>obtain rfl:=Option.some.inj h;exact g1
   |false=>exact Zlf ht htC g1 (g2 rfl).1 h
theorem Zng {C R:Nat}: ∀ {n t:Nat} {s s':SS},Ss C R s->t+n<=R->t+n<=C->ZdB C R n t s=some s'->Ss C R s'
 |0,_,s,s',hs,_,_,h=>by obtain rfl:=Option.some.inj h;exact hs
 |n+1,t,s,s',hs,h1,h2,h=>by
  simp only[ZdB] at h;split at h
  ·obtain rfl:=Option.some.inj h;exact hs
  ·rename_i hp;cases ha:sA C R t s with
   |none=>rw[ha] at h;cases h
   |some s1=>rw[ha] at h;exact Zng (Zrj (Zlf (by omega) (by omega) hs (by omega) ha)) (by omega) (by omega) (show ZdB C R n (t+1) (ZfC C R t s1)=some s' from h)
theorem Zi7 (hl:m.length=R*C) (hm:NumL m) (h:ZcM m R C=some s):Ss C R s:=
 Zng ⟨hl,Zb2 R,Zb2 C,hm,ZbZ R,ZbZ C⟩ (by omega) (by omega) h
theorem Zpb {b:Int} (ha: -400000000<=a/\a<=400000000) (hb: -400000000<=b/\b<=400000000) (ht: -400000000<=t/\t<=400000000) (h1:Zl (b*t)=true) (h2:Zl (a+b*t)=true):Zep a (ZcP b t)=a+b*t:=by
 have e:ZcP b t=b*t:=by unfold ZcP;rw[if_neg (by rintro (e|e);exact ZaO hb e;exact ZaO ht e),ZeO h1]
 rw[e];unfold Zep;rw[if_neg (by rintro (e|e);exact ZaO ha e;exact ZaO (ZI.1 h1) e)];exact ZeO h2
theorem Zox {b:Int} (hb: -400000000<=b/\b<=400000000) (ht: -400000000<=t/\t<=400000000) (h: ¬ (Zl (b*t)=true/\Zl (a+b*t)=true)):Zep a (ZcP b t)=Zah:=by
 cases e1:Zl (b*t) with
 |false=>
  have e:ZcP b t=Zah:=by
   unfold ZcP;split
   ·rfl
   ·exact Zf6 e1
  rw[e];unfold Zep;rw[if_pos (.inr rfl)]
 |true=>
  have e:ZcP b t=b*t:=by unfold ZcP;rw[if_neg (by rintro (e|e);exact ZaO hb e;exact ZaO ht e),ZeO e1]
  rw[e];have e2:Zl (a+b*t)=false:=by
   cases e2:Zl (a+b*t) with
   |false=>rfl
   |true=>exact (h ⟨e1,e2⟩).elim
  unfold Zep;split
  ·rfl
  ·exact Zf6 e2
def ZqP (m:List Int) (C i p:Nat) (t:Int) (r:Nat):Int:=Zep (cell m C r i) (ZcP (cell m C r p) t)
def Zp9 (f:Nat->Int) (m:List Int) (C R i k:Nat):List Int:=tab R C fun r c=>if r<k/\c=i then f r else cell m C r c
theorem ZpX (f:Nat->Int) (m:List Int) (C R i k:Nat):(Zp9 f m C R i k).length=R*C:=ZcL _ _ _
theorem Zpm {f:Nat->Int} {k:Nat} (hr:r<R) (hc:c<C):cell (Zp9 f m C R i k) C r c=if r<k/\c=i then f r else cell m C r c:=Zdd hr hc
theorem Zqg {v:Int} (hl:m.length=R*C) (hi:i<R) (hj:j<C) (hc:c<C):cell (m.set (i*C+j) v) C r c=if r=i/\c=j then v else cell m C r c:=by
 have:=Zr hj hi;unfold cell;rw[Zff (by omega)];by_cases e:r*C+c=i*C+j
 ·obtain ⟨e1,e2⟩:=Zc5 hc hj e;rw[if_pos e,if_pos ⟨e1,e2⟩]
 ·rw[if_neg e,if_neg (fun h=>e (by rw[h.1,h.2]))]
def ZcV (m:List Int) (C R i p:Nat) (t:Int):List Int:=Zp9 (ZqP m C i p t) m C R i R
theorem Zgv (m:List Int) (C R i p:Nat) (t:Int):(ZcV m C R i p t).length=R*C:=ZpX _ _ _ _ _ _
theorem Zft (hr:r<R) (hc:c<C):cell (ZcV m C R i p t) C r c=if c=i then ZqP m C i p t r else cell m C r c:=by
 unfold ZcV;rw[Zpm hr hc];by_cases e:c=i
 ·rw[if_pos ⟨hr,e⟩,if_pos e]
 ·rw[if_neg (fun h=>e h.2),if_neg e]
theorem Zkc (h:NumL m) (ht: -400000000<=t/\t<=400000000) (hok:Zbh m C R i p t=true):ZcV m C R i p t=Zd3 m C R i p t:=
 Zda (Zgv _ _ _ _ _ _) (Zho _ _ _ _ _ _) fun r c hr hc=>by
  rw[Zft hr hc,Zfq hr hc];split
  ·have:=Zez.1 hok r hr;exact Zpb (Zo h C r i) (Zo h C r p) ht this.1 this.2
  ·rfl
theorem Zld (hl:m.length=R*C) (hi:i<R) (hj:j<C):cell m C i j∈m:=Zin (by rw[hl];exact Zr hj hi)
theorem Zky (hi:i<C) (h:NumL m) (ht: -400000000<=t/\t<=400000000) (hok:Zbh m C R i p t=false):Zah∈ZcV m C R i p t:=by
 obtain ⟨r,hr,hno⟩: ∃ r,r<R/\ ¬ (Zl (cell m C r p*t)=true/\Zl (cell m C r i+cell m C r p*t)=true):=by
  rcases Classical.em (∃ r,r<R/\ ¬ (Zl (cell m C r p*t)=true/\Zl (cell m C r i+cell m C r p*t)=true)) with h1|h1
  ·exact h1
  ·have:Zbh m C R i p t=true:=Zez.2 fun k hk=>Classical.byContradiction fun h2=>h1 ⟨k,hk,h2⟩;rw[this] at hok;cases hok
 have e:cell (ZcV m C R i p t) C r i=Zah:=by rw[Zft hr hi,if_pos rfl];exact Zox (Zo h C r p) ht hno
 rw[←e];exact Zld (Zgv _ _ _ _ _ _) hr hi
theorem Zqx {x:Int} (hl:m.length=R*C) (hx:x∈m): ∃ r c,r<R/\c<C/\cell m C r c=x:=by
 obtain ⟨k,hk,rfl⟩:=List.mem_iff_getElem.1 hx;have hC:0<C:=by
  rcases Nat.eq_zero_or_pos C with e|e
  ·subst e;simp at hl;subst hl;simp at hk
  ·exact e
 refine ⟨k/C,k%C,Nat.div_lt_of_lt_mul (by rw[Nat.mul_comm];omega),Nat.mod_lt _ hC, ?_⟩;unfold cell;rw[show k/C*C+k%C=k by rw[Nat.mul_comm];exact Nat.div_add_mod k C];simp[List.getD,List.getElem?_eq_getElem hk]
theorem Zh1 (hl:m.length=R*C) (hb:Zah∈m):Zah∈ZcV m C R i p t:=by
 obtain ⟨r,c,hr,hc,e⟩:=Zqx hl hb;have e2:cell (ZcV m C R i p t) C r c=Zah:=by
  rw[Zft hr hc];split
  ·rename_i h;subst h;unfold ZqP;rw[e,ZlE]
  ·exact e
 rw[←e2];exact Zld (Zgv _ _ _ _ _ _) hr hc
structure Hm3 (C R:Nat) (s:SS):Prop where
 la:s.1.length=R*C
 lu:s.2.1.length=R*R
 lv:s.2.2.length=C*C
 na:NumBL s.1
 nu:NumBL s.2.1
 nv:NumBL s.2.2
def Mk3 (s:SS):Prop:=Zah∈s.1\/Zah∈s.2.1\/Zah∈s.2.2
theorem Ss.hm (h:Ss C R s):Hm3 C R s:=⟨h.la,h.lu,h.lv,h.na.bl,h.nu.bl,h.nv.bl⟩
theorem Ss.no (h:Ss C R s): ¬ Mk3 s:=by
 rintro (hb|hb|hb)
 ·exact ZaO (h.na _ hb) rfl
 ·exact ZaO (h.nu _ hb) rfl
 ·exact ZaO (h.nv _ hb) rfl
def ZgR (C R i p:Nat) (t:Int) (s:SS):SS:=(ZcD s.1 C i p t,ZcD s.2.1 R i p t,s.2.2)
def ZhA (C R i p:Nat) (t:Int) (s:SS):SS:=(ZcV s.1 C R i p t,s.2.1,ZcV s.2.2 C C i p t)
theorem ZoP (h:Hm3 C R s) (hi:i<R) (hb:Mk3 s):Mk3 (ZgR C R i p t s):=by
 rcases hb with hb|hb|hb
 ·exact .inl (Zex h.la hi hb)
 ·exact .inr (.inl (Zex h.lu hi hb))
 ·exact .inr (.inr hb)
theorem Zol (h:Hm3 C R s) (hb:Mk3 s):Mk3 (ZhA C R i p t s):=by
 rcases hb with hb|hb|hb
 ·exact .inl (Zh1 h.la hb)
 ·exact .inr (.inl hb)
 ·exact .inr (.inr (Zh1 h.lv hb))
theorem ZlB (h:Ss C R s) (hi:i<R) (ht: -400000000<=t/\t<=400000000):(ZaF C R i p t s=some (ZgR C R i p t s))\/(ZaF C R i p t s=none/\Mk3 (ZgR C R i p t s)):=by
 unfold ZaF ZgR;cases h1:Z8 s.1 C i p t with
 |false=>exact .inr ⟨rfl, .inl (ZgI h.la hi h.na ht h1)⟩
 |true=>
  cases h2:Z8 s.2.1 R i p t with
  |false=>exact .inr ⟨rfl, .inr (.inl (ZgI h.lu hi h.nu ht h2))⟩
  |true=>exact .inl (by rw[Zgq h.na ht h1,Zgq h.nu ht h2];rfl)
theorem Zls (h:Ss C R s) (hi:i<C) (ht: -400000000<=t/\t<=400000000):(Zbm C R i p t s=some (ZhA C R i p t s))\/(Zbm C R i p t s=none/\Mk3 (ZhA C R i p t s)):=by
 unfold Zbm ZhA;cases h1:Zbh s.1 C R i p t with
 |false=>exact .inr ⟨rfl, .inl (Zky hi h.na ht h1)⟩
 |true=>
  cases h2:Zbh s.2.2 C C i p t with
  |false=>exact .inr ⟨rfl, .inr (.inr (Zky hi h.nv ht h2))⟩
  |true=>exact .inl (by rw[Zkc h.na ht h1,Zkc h.nv ht h2];rfl)
def Rg (R C:Nat) (b:Int×Int):Prop:=b=(-1, -1)\/ ∃ r c:Nat,b=((r:Int),(c:Int))/\r<R/\c<C
theorem Zll {m:List Int} {C R t i:Nat} {b:Int×Int} (hi:i<R) (hb:Rg R C b): ∀ n,t+n<=C->Rg R C (lsJ m C t i n b)
 |0,_=>hb
 |n+1,hn=>by
  simp only[lsJ];split
  ·exact .inr ⟨i,t+n,rfl,hi,by omega⟩
  ·exact Zll hi hb n (by omega)
theorem ZoU {m:List Int} {C R t:Nat} (htC:t<=C): ∀ n,t+n<=R->Rg R C (lsI m C t n)
 |0,_=> .inl rfl
 |n+1,hn=>Zll (by omega) (ZoU htC n (by omega)) _ (by omega)
theorem Znn (h:cell m C i j=0):ZbQ m C b i j=false:=by unfold ZbQ;rw[decide_eq_false (by simp[h])];rfl
theorem ZmL (h:cell m C i j≠0):ZbQ m C (-1, -1) i j=true:=by unfold ZbQ;rw[decide_eq_true h];rfl
theorem Zqz (h:cell m C i j≠0):ZbQ m C ((r:Int),(c:Int)) i j=decide ((cell m C i j).natAbs<(cell m C r c).natAbs):=by
 unfold ZbQ;rw[decide_eq_true h,decide_eq_false (by simp)];simp

end Go.Proofs.YtjpcgofidijigaaGreatDoor
