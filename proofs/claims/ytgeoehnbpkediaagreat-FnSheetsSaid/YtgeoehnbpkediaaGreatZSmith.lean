/- The Smith form, as plain Lean: cells row by row, the three matrices together; nothing where a number is beyond the limit. -/
import Derived.Test.YtgeoehnbpkediaaGreatZHermF
set_option maxHeartbeats 8000000
set_option maxRecDepth 100000
namespace Go.Proofs.YtgeoehnbpkediaaGreat
open Go.RowKit
open Lib (hid)
open Go.Value renaming int->Yv
open Go.IntKind renaming i64->Yi
variable {C R c i j k p r:Nat} {a t:Int} {b:Int×Int} {f:Nat->Int} {m:List Int} {seen:Nat->Nat->Prop}
def tab (R C:Nat) (f:Nat->Nat->Int):List Int:=(List.range (R*C)).map fun k=>f (k/C) (k%C)
theorem ZcO (R C:Nat) (f:Nat->Nat->Int):(tab R C f).length=R*C:=by simp[tab]
theorem Zcc {f:Nat->Nat->Int} (hi:i<R) (hj:j<C):cell (tab R C f) C i j=f i j:=by
 have h:=Zl hj hi;unfold cell tab;rw[List.getD_eq_getElem?_getD,List.getElem?_map,List.getElem?_range h];simp only[Option.map_some,Option.getD_some];rw[show i*C+j=j+C*i by rw[Nat.mul_comm];omega,Nat.add_mul_div_left _ _ (by omega),Nat.add_mul_mod_self_left,Nat.div_eq_of_lt hj,Nat.mod_eq_of_lt hj,Nat.zero_add]
theorem Zbj {L M:List Int} (hl:L.length=R*C) (hm:M.length=R*C) (h: ∀ i j,i<R->j<C->cell L C i j=cell M C i j):L=M:=by
 refine List.ext_getElem (by omega) fun k h1 h2=> ?_;have hC:0<C:=by
  rcases Nat.eq_zero_or_pos C with e|e
  ·subst e;simp at hl;subst hl;simp at h1
  ·exact e
 have hk:k<R*C:=by omega
 have hi:k/C<R:=Nat.div_lt_of_lt_mul (by rw[Nat.mul_comm];exact hk);have:=h (k/C) (k%C) hi (Nat.mod_lt _ hC);unfold cell at this;rw[show k/C*C+k%C=k by rw[Nat.mul_comm];exact Nat.div_add_mod k C] at this;simpa [List.getD,List.getElem?_eq_getElem h1,List.getElem?_eq_getElem h2] using this
theorem ZiD {f:Nat->Nat->Int} (h: ∀ i j,i<R->j<C-> -400000000<=f i j/\f i j<=400000000):NumL (tab R C f):=fun x hx=>by
 obtain ⟨k,hk,rfl⟩:=List.mem_map.1 hx;have hk:=List.mem_range.1 hk;have hC:0<C:=by
  rcases Nat.eq_zero_or_pos C with e|e
  ·subst e;simp at hk
  ·exact e
 exact h _ _ (Nat.div_lt_of_lt_mul (by rw[Nat.mul_comm];exact hk)) (Nat.mod_lt _ hC)
def trL (m:List Int) (R C:Nat):List Int:=tab C R fun j i=>cell m C i j
theorem Zbo (m:List Int) (R C:Nat):(trL m R C).length=C*R:=ZcO _ _ _
theorem ZbK (hi:i<R) (hj:j<C):cell (trL m R C) R j i=cell m C i j:=Zcc hj hi
theorem ZdI (h:NumL m):NumL (trL m R C):=ZiD fun _ _ _ _=>Zr h _ _ _
def Zbr (m:List Int) (C R i p:Nat) (t:Int):Bool:=(List.range R).all fun r=>Zq (cell m C r p*t)&&Zq (cell m C r i+cell m C r p*t)
def Zdk (m:List Int) (C R i p:Nat) (t:Int):List Int:=tab R C fun r c=>if c=i then cell m C r i+cell m C r p*t else cell m C r c
def Zfb (m:List Int) (C R i p:Nat):List Int:=tab R C fun r c=>if c=i then cell m C r p else if c=p then cell m C r i else cell m C r c
theorem Zhd (m:List Int) (C R i p:Nat) (t:Int):(Zdk m C R i p t).length=R*C:=ZcO _ _ _
theorem ZhK (m:List Int) (C R i p:Nat):(Zfb m C R i p).length=R*C:=ZcO _ _ _
theorem Zey (hr:r<R) (hc:c<C):cell (Zdk m C R i p t) C r c=if c=i then cell m C r i+cell m C r p*t else cell m C r c:=Zcc hr hc
theorem Zn7 (hr:r<R) (hc:c<C):cell (Zfb m C R i p) C r c=if c=i then cell m C r p else if c=p then cell m C r i else cell m C r c:=Zcc hr hc
theorem ZdM:Zbr m C R i p t=true↔ ∀ r,r<R->Zq (cell m C r p*t)=true/\Zq (cell m C r i+cell m C r p*t)=true:=by
 unfold Zbr;rw[List.all_eq_true];constructor
 ·intro h k hk;have:=h k (List.mem_range.2 hk)
  rwa [Bool.and_eq_true] at this
 ·intro h k hk;have:=h k (List.mem_range.1 hk)
  rwa [Bool.and_eq_true]
theorem Zi9 (h:NumL m) (hok:Zbr m C R i p t=true):NumL (Zdk m C R i p t):=ZiD fun r c hr _=>by
 split
 ·exact ZT.1 (ZdM.1 hok r hr).2
 ·exact Zr h _ _ _
theorem Zkl (h:NumL m):NumL (Zfb m C R i p):=ZiD fun r c _ _=>by
 split
 ·exact Zr h _ _ _
 ·split<;>exact Zr h _ _ _
theorem Zgs (hi:i<C) (hp:p<C):Zah (trL m R C) R i p t=Zbr m C R i p t:=by
 rw[Bool.eq_iff_iff,Zcw,ZdM];constructor
 ·intro h k hk;have:=h k hk;unfold Zbw at this
  rwa [ZbK hk hp,ZbK hk hi] at this
 ·intro h k hk;unfold Zbw;rw[ZbK hk hp,ZbK hk hi];exact h k hk
theorem Zht (hi:i<C) (hp:p<C):trL (addR (trL m R C) R i p t) C R=Zdk m C R i p t:=
 Zbj (ZcO _ _ _) (ZcO _ _ _) fun r c hr hc=>by
  rw[ZbK hc hr,Zbt (Zbo _ _ _) hi hr,Zdk,Zcc hr hc];split
  ·rw[ZbK hr hi,ZbK hr hp]
  ·rw[ZbK hr hc]
theorem Zij (hi:i<C) (hp:p<C) (hip:i≠p):trL (swR (trL m R C) R i p) C R=Zfb m C R i p:=
 Zbj (ZcO _ _ _) (ZcO _ _ _) fun r c hr hc=>by
  rw[ZbK hc hr,ZdU (Zbo _ _ _) hi hp hip hr,Zfb,Zcc hr hc];split
  ·rw[ZbK hr hp]
  ·split
   ·rw[ZbK hr hi]
   ·rw[ZbK hr hc]
abbrev SS:=List Int×List Int×List Int
variable {s s':SS}
structure Ss (C R:Nat) (s:SS):Prop where
 la:s.1.length=R*C
 lu:s.2.1.length=R*R
 lv:s.2.2.length=C*C
 na:NumL s.1
 nu:NumL s.2.1
 nv:NumL s.2.2
def ZaP (C R i p:Nat) (t:Int) (s:SS):Option SS:=if Zah s.1 C i p t&&Zah s.2.1 R i p t then some (addR s.1 C i p t,addR s.2.1 R i p t,s.2.2) else none
def ZbW (C R p t:Nat) (s:SS):SS:=(swR s.1 C p t,swR s.2.1 R p t,s.2.2)
def Zfi (C R t:Nat) (s:SS):SS:=(Zdf s.1 C t,Zdf s.2.1 R t,s.2.2)
def Zbp (C R i p:Nat) (t:Int) (s:SS):Option SS:=if Zbr s.1 C R i p t&&Zbr s.2.2 C C i p t then some (Zdk s.1 C R i p t,s.2.1,Zdk s.2.2 C C i p t) else none
def Zfa (C R i p:Nat) (s:SS):SS:=(Zfb s.1 C R i p,s.2.1,Zfb s.2.2 C C i p)
theorem ZcZ (h:Ss C R s) (he:ZaP C R i p t s=some s'):Ss C R s'/\s'=(addR s.1 C i p t,addR s.2.1 R i p t,s.2.2):=by
 unfold ZaP at he;split at he
 ·rename_i hok;rw[Bool.and_eq_true] at hok;obtain rfl:=Option.some.inj he;exact ⟨⟨by simp[addR,Z6,h.la],by simp[addR,Z6,h.lu],h.lv,Zc0 h.na hok.1,Zc0 h.nu hok.2,h.nv⟩,rfl⟩
 ·cases he
theorem Zee {t:Nat} (h:Ss C R s):Ss C R (ZbW C R p t s):=⟨by simp[ZbW,swR,ZbY,h.la],by simp[ZbW,swR,ZbY,h.lu],h.lv,Zdd h.na _,Zdd h.nu _,h.nv⟩
theorem Zh1 {t:Nat} (h:Ss C R s):Ss C R (Zfi C R t s):=⟨by simp[Zfi,Zdf,Z6,h.la],by simp[Zfi,Zdf,Z6,h.lu],h.lv,Zf9 h.na,Zf9 h.nu,h.nv⟩
theorem Ze7 (h:Ss C R s) (he:Zbp C R i p t s=some s'):Ss C R s'/\s'=(Zdk s.1 C R i p t,s.2.1,Zdk s.2.2 C C i p t):=by
 unfold Zbp at he;split at he
 ·rename_i hok;rw[Bool.and_eq_true] at hok;obtain rfl:=Option.some.inj he;exact ⟨⟨Zhd _ _ _ _ _ _,h.lu,Zhd _ _ _ _ _ _,Zi9 h.na hok.1,h.nu,Zi9 h.nv hok.2⟩,rfl⟩
 ·cases he
theorem ZfM (h:Ss C R s):Ss C R (Zfa C R i p s):=⟨ZhK _ _ _ _ _,h.lu,ZhK _ _ _ _ _,Zkl h.na,h.nu,Zkl h.nv⟩
def Zcj (m:List Int) (C:Nat) (b:Int×Int) (i j:Nat):Bool:=decide (cell m C i j≠0)&&(decide (b.1<0)||decide ((cell m C i j).natAbs<(cell m C b.1.toNat b.2.toNat).natAbs))
def lsJ (m:List Int) (C t i:Nat):Nat->Int×Int->Int×Int
 |0,b=>b
 |n+1,b=>if Zcj m C (lsJ m C t i n b) i (t+n)=true then ((i:Int),((t+n:Nat):Int)) else lsJ m C t i n b
def lsI (m:List Int) (C t:Nat):Nat->Int×Int
 |0=>(-1, -1)
 |n+1=>lsJ m C t (t+n) (C-t) (lsI m C t n)
def Zab (m:List Int) (C R t:Nat):Int×Int:=lsI m C t (R-t)
def LsOk (m:List Int) (C R t:Nat) (seen:Nat->Nat->Prop) (b:Int×Int):Prop:=
 (b=(-1, -1)/\ ∀ i j,seen i j->cell m C i j=0)\/ ∃ r c:Nat,b=((r:Int),(c:Int))/\t<=r/\r<R/\t<=c/\c<C/\cell m C r c≠0/\(∀ i j,seen i j->cell m C i j≠0->(cell m C r c).natAbs<=(cell m C i j).natAbs)/\
  (seen t t->cell m C t t≠0->(cell m C t t).natAbs<=(cell m C r c).natAbs->r=t/\c=t)
theorem LsOk.step {t:Nat} (h:LsOk m C R t seen b) (hi:t<=i/\i<R) (hj:t<=j/\j<C) (hf:(i=t/\j=t)->b=(-1, -1)) (hs:(i,j)≠(t,t)->(seen t t)):
  LsOk m C R t (fun i' j'=>seen i' j'\/(i'=i/\j'=j)) (if Zcj m C b i j=true then ((i:Int),(j:Int)) else b):=by
 by_cases hz:cell m C i j=0
 ·have hb:Zcj m C b i j=false:=by unfold Zcj;rw[decide_eq_false (by simp[hz])];rfl
  rw[hb];simp only[Bool.false_eq_true,if_false];rcases h with ⟨h1,h2⟩|⟨r,c,h1,h2,h3,h4,h5,h6,h7,h8⟩
  ·exact .inl ⟨h1,fun i' j' h=>h.elim (h2 i' j') (fun e=>by rw[e.1,e.2];exact hz)⟩
  ·refine .inr ⟨r,c,h1,h2,h3,h4,h5,h6,fun i' j' h hne=>h.elim (fun h=>h7 i' j' h hne) (fun e=>by rw[e.1,e.2] at hne;exact (hne hz).elim),fun h hne hle=> ?_⟩;rcases h with h|⟨e1,e2⟩
   ·exact h8 h hne hle
   ·subst e1;subst e2;exact (hne hz).elim
 ·rcases h with ⟨h1,h2⟩|⟨r,c,h1,h2,h3,h4,h5,h6,h7,h8⟩
  ·have hb:Zcj m C b i j=true:=(by unfold Zcj;rw[h1,decide_eq_true hz];rfl);rw[hb,if_pos rfl];refine .inr ⟨i,j,rfl,hi.1,hi.2,hj.1,hj.2,hz,fun i' j' h hne=> ?_,fun h hne hle=> ?_⟩
   ·rcases h with h|⟨e1,e2⟩
    ·exact (hne (h2 i' j' h)).elim
    ·rw[e1,e2];exact Nat.le_refl _
   ·rcases h with h|⟨e1,e2⟩
    ·exact (hne (h2 t t h)).elim
    ·exact ⟨e1.symm,e2.symm⟩
  ·have hnf: ¬ (i=t/\j=t):=fun e=>(by have:=hf e;rw[h1] at this;have:=congrArg Prod.fst this;simp at this);have hst:seen t t:=hs (fun e=>hnf ⟨congrArg Prod.fst e,congrArg Prod.snd e⟩);have hbe:Zcj m C b i j=decide ((cell m C i j).natAbs<(cell m C r c).natAbs):=(by unfold Zcj;rw[h1,decide_eq_true hz,decide_eq_false (by simp)];simp);rw[hbe];by_cases hlt:(cell m C i j).natAbs<(cell m C r c).natAbs
   ·rw[decide_eq_true hlt,if_pos rfl];refine .inr ⟨i,j,rfl,hi.1,hi.2,hj.1,hj.2,hz,fun i' j' h hne=> ?_,fun h hne hle=> ?_⟩
    ·rcases h with h|⟨e1,e2⟩
     ·have:=h7 i' j' h hne;omega
     ·rw[e1,e2];exact Nat.le_refl _
    ·have:=h7 t t hst hne;omega
   ·rw[decide_eq_false hlt];simp only[Bool.false_eq_true,if_false];refine .inr ⟨r,c,h1,h2,h3,h4,h5,h6,fun i' j' h hne=> ?_,fun h hne hle=>h8 hst hne hle⟩;rcases h with h|⟨e1,e2⟩
    ·exact h7 i' j' h hne
    ·rw[e1,e2];omega
theorem LsOk.congr {t:Nat} {seen':Nat->Nat->Prop} (h:LsOk m C R t seen b) (he: ∀ i j,seen i j↔seen' i j):LsOk m C R t seen' b:=by
 have:seen=seen':=funext fun i=>funext fun j=>propext (he i j);rw[←this];exact h
def Zfv (C t i j:Nat) (i' j':Nat):Prop:=t<=i'/\t<=j'/\((i'<i/\j'<C)\/(i'=i/\j'<j))
theorem ZmT {m:List Int} {C R t i:Nat} {b:Int×Int} (hi:t<=i/\i<R) (h0:i=t->b=(-1, -1)) (h:LsOk m C R t (Zfv C t i t) b) (hC:i≠t->t<C): ∀ n,t+n<=C->LsOk m C R t (Zfv C t i (t+n)) (lsJ m C t i n b)
 |0,_=>by simpa [lsJ] using h
 |n+1,hn=>by
  have ih:=ZmT hi h0 h hC n (by omega);simp only[lsJ];refine (LsOk.step (i:=i) (j:=t+n) ih hi ⟨by omega,by omega⟩ (fun e=> ?_) (fun e=> ?_)).congr (fun i' j'=> ?_)
  ·obtain ⟨e1,e2⟩:=e;have hn0:n=0:=(by omega);subst hn0;simp only[lsJ];exact h0 e1
  ·refine ⟨Nat.le_refl _,Nat.le_refl _, ?_⟩;by_cases e1:i=t
   ·refine .inr ⟨e1.symm, ?_⟩;rcases Nat.eq_zero_or_pos n with e2|e2
    ·exact (e (by rw[e1,e2];rfl)).elim
    ·omega
   ·exact .inl ⟨by omega,hC e1⟩
  ·unfold Zfv;constructor
   ·rintro (⟨h1,h2,h3⟩|⟨e1,e2⟩)
    ·exact ⟨h1,h2,by omega⟩
    ·exact ⟨by omega,by omega, .inr ⟨e1,by omega⟩⟩
   ·rintro ⟨h1,h2,h3⟩;by_cases e:i'=i/\j'=t+n
    ·exact .inr e
    ·refine .inl ⟨h1,h2, ?_⟩;rcases h3 with h3|⟨e1,h3⟩
     ·exact .inl h3
     ·exact .inr ⟨e1,by
       have:j'≠t+n:=fun e2=>e ⟨e1,e2⟩;omega⟩
theorem ZmS {m:List Int} {C R t:Nat} (htC:t<=C): ∀ n,t+n<=R->LsOk m C R t (Zfv C t (t+n) t) (lsI m C t n)/\(n=0->lsI m C t n=(-1, -1))
 |0,_=>⟨.inl ⟨rfl,fun i j h=>by unfold Zfv at h;omega⟩,fun _=>rfl⟩
 |n+1,hn=>by
  obtain ⟨ih,ih0⟩:=ZmS (m:=m) (R:=R) htC n (by omega);refine ⟨?_,fun h=>by omega⟩;simp only[lsI];by_cases hC:t<C
  ·have:=ZmT (m:=m) (C:=C) (R:=R) (t:=t) (i:=t+n) ⟨by omega,by omega⟩ (fun e=>ih0 (by omega)) ih (fun _=>hC) (C-t) (by omega);refine this.congr fun i' j'=> ?_;unfold Zfv;constructor
   ·rintro ⟨h1,h2,h3⟩;exact ⟨h1,h2,by omega⟩
   ·rintro ⟨h1,h2,h3⟩;exact ⟨h1,h2,by omega⟩
  ·have e:C-t=0:=(by omega);rw[e];simp only[lsJ];refine ih.congr fun i' j'=> ?_;unfold Zfv;constructor
   ·rintro ⟨h1,h2,h3⟩;exact ⟨h1,h2,by omega⟩
   ·rintro ⟨h1,h2,h3⟩;exact ⟨h1,h2,by omega⟩
theorem Zg7 (m:List Int) {t:Nat} (hR:t<=R) (hC:t<=C):LsOk m C R t (fun i j=>t<=i/\i<R/\t<=j/\j<C) (Zab m C R t):=by
 refine (ZmS (m:=m) (R:=R) hC (R-t) (by omega)).1.congr fun i j=> ?_;unfold Zfv;constructor
 ·rintro ⟨h1,h2,h3⟩;omega
 ·rintro ⟨h1,h2,h3,h4⟩;exact ⟨h1,h3,by omega⟩
def Zei (C R t:Nat):Nat->Nat->SS->Option SS
 |0,_,s=>some s
 |n+1,i,s=>if cell s.1 C i t≠0 then (ZaP C R i t (-(cell s.1 C i t/cell s.1 C t t)) s).bind (Zei C R t n (i+1)) else Zei C R t n (i+1) s
def Zeo (C R t:Nat):Nat->Nat->SS->Option SS
 |0,_,s=>some s
 |n+1,j,s=>if cell s.1 C t j≠0 then (Zbp C R j t (-(cell s.1 C t j/cell s.1 C t t)) s).bind (Zeo C R t n (j+1)) else Zeo C R t n (j+1) s
theorem Zj9 (x p:Int):x+p*(-(x/p))=x%p:=by
 have:=Int.emod_def x p;rw[Int.mul_neg];omega
theorem Zgc {C R t:Nat} (ht:t<R) (htC:t<C): ∀ {n i:Nat} {s s':SS},Ss C R s->t<i->i+n<=R->cell s.1 C t t≠0->Zei C R t n i s=some s'->
  Ss C R s'/\(∀ k,k<C->cell s'.1 C t k=cell s.1 C t k)/\(∀ i',i<=i'->i'<i+n->0<=cell s'.1 C i' t/\(cell s'.1 C i' t).natAbs<(cell s.1 C t t).natAbs)/\(∀ i' k,k<C->i'<i\/i+n<=i'->cell s'.1 C i' k=cell s.1 C i' k)
 |0,i,s,s',h,_,_,_,he=>by obtain rfl:=Option.some.inj he;exact ⟨h,fun _ _=>rfl,fun _ _ _=>by omega,fun _ _ _ _=>rfl⟩
 |n+1,i,s,s',h,hi,hn,hne,he=>by
  simp only[Zei] at he;by_cases hc:cell s.1 C i t=0
  ·rw[if_neg (by simp[hc])] at he;obtain ⟨g1,g2,g3,g4⟩:=Zgc ht htC h (by omega) (by omega) hne he;refine ⟨g1,g2,fun i' h2 h3=> ?_,fun i' k hk h2=>g4 i' k hk (by omega)⟩;by_cases e:i'=i
   ·subst e;rw[g4 i' t htC (.inl (by omega)),hc];have:(cell s.1 C t t).natAbs≠0:=(by omega);exact ⟨by omega,by simp;omega⟩
   ·exact g3 i' (by omega) (by omega)
  ·rw[if_pos hc] at he;cases ha:ZaP C R i t (-(cell s.1 C i t/cell s.1 C t t)) s with
   |none=>rw[ha] at he;cases he
   |some s1=>
    rw[ha] at he;obtain ⟨h1,e1⟩:=ZcZ h ha;have hcell: ∀ i' k,k<C->cell s1.1 C i' k=if i'=i then cell s.1 C i k+cell s.1 C t k*(-(cell s.1 C i t/cell s.1 C t t)) else cell s.1 C i' k:=fun i' k hk=>(by rw[e1];exact Zbt h.la (by omega) hk);have htk: ∀ k,k<C->cell s1.1 C t k=cell s.1 C t k:=fun k hk=>(by rw[hcell t k hk,if_neg (by omega)]);obtain ⟨g1,g2,g3,g4⟩:=Zgc ht htC h1 (by omega) (by omega) (by rw[htk t htC];exact hne) (show Zei C R t n (i+1) s1=some s' from he);refine ⟨g1,fun k hk=>by rw[g2 k hk,htk k hk],fun i' h2 h3=> ?_,fun i' k hk h2=> ?_⟩
    ·by_cases e:i'=i
     ·subst e;rw[g4 i' t htC (.inl (by omega)),hcell i' t htC,if_pos rfl,Zj9];have h5:=Int.emod_nonneg (cell s.1 C i' t) hne;have h6:=Int.emod_lt (cell s.1 C i' t) hne;omega
     ·have:=g3 i' (by omega) (by omega);rw[htk t htC] at this;exact this
    ·rw[g4 i' k hk (by omega),hcell i' k hk,if_neg (by omega)]
theorem Zf5 {C R t:Nat} (ht:t<R) (htC:t<C): ∀ {n j:Nat} {s s':SS},Ss C R s->t<j->j+n<=C->cell s.1 C t t≠0->Zeo C R t n j s=some s'->
  Ss C R s'/\(∀ r,r<R->cell s'.1 C r t=cell s.1 C r t)/\(∀ j',j<=j'->j'<j+n->cell s'.1 C t j'=cell s.1 C t j'%cell s.1 C t t)/\(∀ r k,r<R->k<C->k<j\/j+n<=k->cell s'.1 C r k=cell s.1 C r k)
 |0,j,s,s',h,_,_,_,he=>by obtain rfl:=Option.some.inj he;exact ⟨h,fun _ _=>rfl,fun _ _ _=>by omega,fun _ _ _ _ _=>rfl⟩
 |n+1,j,s,s',h,hj,hn,hne,he=>by
  simp only[Zeo] at he;by_cases hc:cell s.1 C t j=0
  ·rw[if_neg (by simp[hc])] at he;obtain ⟨g1,g2,g3,g4⟩:=Zf5 ht htC h (by omega) (by omega) hne he;refine ⟨g1,g2,fun j' h2 h3=> ?_,fun r k hr hk h2=>g4 r k hr hk (by omega)⟩;by_cases e:j'=j
   ·subst e;rw[g4 t j' ht (by omega) (.inl (by omega)),hc];simp
   ·exact g3 j' (by omega) (by omega)
  ·rw[if_pos hc] at he;cases ha:Zbp C R j t (-(cell s.1 C t j/cell s.1 C t t)) s with
   |none=>rw[ha] at he;cases he
   |some s1=>
    rw[ha] at he;obtain ⟨h1,e1⟩:=Ze7 h ha;have hcell: ∀ r k,r<R->k<C->cell s1.1 C r k=if k=j then cell s.1 C r j+cell s.1 C r t*(-(cell s.1 C t j/cell s.1 C t t)) else cell s.1 C r k:=fun r k hr hk=>(by rw[e1];exact Zey hr hk);have htk: ∀ r,r<R->cell s1.1 C r t=cell s.1 C r t:=fun r hr=>(by rw[hcell r t hr htC,if_neg (by omega)]);obtain ⟨g1,g2,g3,g4⟩:=Zf5 ht htC h1 (by omega) (by omega) (by rw[htk t ht];exact hne) (show Zeo C R t n (j+1) s1=some s' from he);refine ⟨g1,fun r hr=>by rw[g2 r hr,htk r hr],fun j' h2 h3=> ?_,fun r k hr hk h2=> ?_⟩
    ·by_cases e:j'=j
     ·subst e;rw[g4 t j' ht (by omega) (.inl (by omega)),hcell t j' ht (by omega),if_pos rfl,Zj9]
     ·rw[g3 j' (by omega) (by omega),htk t ht,hcell t j' ht (by omega),if_neg e]
    ·rw[g4 r k hr hk (by omega),hcell r k hr hk,if_neg (by omega)]
def ZJ (m:List Int) (C R t:Nat):Bool:=(List.range (R-(t+1))).all fun d=>cell m C (t+1+d) t==0
def Zau (m:List Int) (C t:Nat):Bool:=(List.range (C-(t+1))).all fun d=>cell m C t (t+1+d)==0
def ZfT (m:List Int) (C t i:Nat):Bool:=(List.range (C-(t+1))).any fun d=>(cell m C i (t+1+d)).tmod (cell m C t t)!=0
def Zdi (m:List Int) (C R t:Nat):Option Nat:=(List.range (R-(t+1))).find? fun d=>ZfT m C t (t+1+d)
theorem ZgK {t:Nat}:ZJ m C R t=true↔ ∀ i,t<i->i<R->cell m C i t=0:=by
 unfold ZJ;rw[List.all_eq_true];constructor
 ·intro h i h1 h2;have:=h (i-(t+1)) (List.mem_range.2 (by omega));rw[show t+1+(i-(t+1))=i by omega] at this;simpa using this
 ·intro h d hd;have:=List.mem_range.1 hd;simpa using h (t+1+d) (by omega) (by omega)
theorem ZgV {t:Nat}:Zau m C t=true↔ ∀ j,t<j->j<C->cell m C t j=0:=by
 unfold Zau;rw[List.all_eq_true];constructor
 ·intro h i h1 h2;have:=h (i-(t+1)) (List.mem_range.2 (by omega));rw[show t+1+(i-(t+1))=i by omega] at this;simpa using this
 ·intro h d hd;have:=List.mem_range.1 hd;simpa using h (t+1+d) (by omega) (by omega)
theorem Zgj {t:Nat}:ZfT m C t i=true↔ ∃ j,t<j/\j<C/\(cell m C i j).tmod (cell m C t t)≠0:=by
 unfold ZfT;rw[List.any_eq_true];constructor
 ·rintro ⟨d,hd,h⟩;have:=List.mem_range.1 hd;exact ⟨t+1+d,by omega,by omega,by simpa using h⟩
 ·rintro ⟨j,h1,h2,h3⟩;refine ⟨j-(t+1),List.mem_range.2 (by omega), ?_⟩;rw[show t+1+(j-(t+1))=j by omega];simpa using h3
def ZfK (C R t:Nat) (s:SS):Option (SS×Bool):=
 (Zei C R t (R-(t+1)) (t+1) s).bind fun s1=>(Zeo C R t (C-(t+1)) (t+1) s1).bind fun s2=>
  if (ZJ s2.1 C R t&&Zau s2.1 C t)=true then (match Zdi s2.1 C R t with
   |some d=>(ZaP C R t (t+1+d) 1 s2).map fun x=>(x,false)
   |none=>some (s2,true)) else some (s2,false)
def ZbG (C R t r c:Nat) (s:SS):SS:=if c=t then (if r=t then s else ZbW C R r t s) else Zfa C R c t (if r=t then s else ZbW C R r t s)
def lsR (m:List Int) (C R t:Nat):Nat:=(Zab m C R t).1.toNat
def lsC (m:List Int) (C R t:Nat):Nat:=(Zab m C R t).2.toNat
def rnd (C R t:Nat) (s:SS):Option (SS×Bool):=ZfK C R t (ZbG C R t (lsR s.1 C R t) (lsC s.1 C R t) s)
def lsA (m:List Int) (C R t:Nat):Nat:=(cell m C (lsR m C R t) (lsC m C R t)).natAbs
def Zg4 (m:List Int) (C R t:Nat):Bool:=(decide (cell m C t t≠0)&&decide ((cell m C t t).natAbs=lsA m C R t))&&(List.range (C-(t+1))).any fun d=>cell m C t (t+1+d)%cell m C t t !=0
def mu3 (m:List Int) (C R t:Nat):Nat:=2*lsA m C R t+(if Zg4 m C R t=true then 0 else 1)
theorem ZkI {t:Nat} (hi:t<=i/\i<R) (hj:t<=j/\j<C) (hne:cell m C i j≠0):0<=(Zab m C R t).1/\lsA m C R t<=(cell m C i j).natAbs:=by
 rcases Zg7 m (C:=C) (R:=R) (t:=t) (by omega) (by omega) with ⟨_,h2⟩|⟨r,c,h1,_,_,_,_,_,h7,_⟩
 ·exact (hne (h2 i j ⟨hi.1,hi.2,hj.1,hj.2⟩)).elim
 ·unfold lsA lsR lsC;rw[h1];exact ⟨by simp,by simpa using h7 i j ⟨hi.1,hi.2,hj.1,hj.2⟩ hne⟩
theorem Zk8 {t:Nat} (h:Ss C R s):Ss C R (ZbG C R t r c s):=by
 unfold ZbG;split
 ·split
  ·exact h
  ·exact Zee h
 ·split
  ·exact ZfM h
  ·exact ZfM (Zee h)
theorem Zf0 {t:Nat} (h:Ss C R s) (hr:r<R) (hc:c<C) (ht:t<R) (htC:t<C):cell (ZbG C R t r c s).1 C t t=cell s.1 C r c:=by
 have h1: ∀ k,k<C->cell (if r=t then s else ZbW C R r t s).1 C t k=cell s.1 C r k:=fun k hk=>by
  by_cases e:r=t
  ·rw[if_pos e,e]
  ·rw[if_neg e,ZbW,ZdU h.la hr ht e hk,if_neg (fun e2=>e e2.symm),if_pos rfl]
 unfold ZbG;by_cases e:c=t
 ·rw[if_pos e,h1 t htC,e]
 ·rw[if_neg e,Zfa,Zfb,Zcc ht htC,if_neg (fun e2=>e e2.symm),if_pos rfl,h1 c hc]
theorem Zfe {t:Nat} (ht:t<R) (htC:t<C) {b:Bool} (h:Ss C R s) (hp:0<=(Zab s.1 C R t).1) (he:rnd C R t s=some (s',b)):
  Ss C R s'/\(b=false->0<=(Zab s'.1 C R t).1/\mu3 s'.1 C R t<mu3 s.1 C R t):=by
 obtain ⟨r,c,h1,hr1,hr2,hc1,hc2,hne,hmin,hfirst⟩: ∃ r c:Nat,Zab s.1 C R t=((r:Int),(c:Int))/\t<=r/\r<R/\t<=c/\c<C/\cell s.1 C r c≠0/\(∀ i j,(t<=i/\i<R/\t<=j/\j<C)->cell s.1 C i j≠0->(cell s.1 C r c).natAbs<=(cell s.1 C i j).natAbs)/\
   ((t<=t/\t<R/\t<=t/\t<C)->cell s.1 C t t≠0->(cell s.1 C t t).natAbs<=(cell s.1 C r c).natAbs->r=t/\c=t):=by
  rcases Zg7 s.1 (C:=C) (R:=R) (t:=t) (by omega) (by omega) with ⟨h0,_⟩|h0
  ·rw[h0] at hp;simp at hp
  ·exact h0
 have hlr:lsR s.1 C R t=r:=by unfold lsR;rw[h1];simp
 have hlc:lsC s.1 C R t=c:=by unfold lsC;rw[h1];simp
 have hla:lsA s.1 C R t=(cell s.1 C r c).natAbs:=by unfold lsA;rw[hlr,hlc]
 unfold rnd at he;rw[hlr,hlc] at he;have h0:=Zk8 (t:=t) (r:=r) (c:=c) h;have hpc:=Zf0 h hr2 hc2 ht htC;have hfx:r=t->c=t->ZbG C R t r c s=s:=fun e1 e2=>by unfold ZbG;rw[if_pos e2,if_pos e1]
 generalize hs0:ZbG C R t r c s=s0 at *;unfold ZfK at he;cases hA:Zei C R t (R-(t+1)) (t+1) s0 with
 |none=>rw[hA] at he;cases he
 |some s1=>
  rw[hA] at he;simp only[Option.bind_some] at he;obtain ⟨a1,a2,a3,a4⟩:=Zgc ht htC h0 (by omega) (by omega) (by rw[hpc];exact hne) hA;cases hB:Zeo C R t (C-(t+1)) (t+1) s1 with
  |none=>rw[hB] at he;cases he
  |some s2=>
   rw[hB] at he;simp only[Option.bind_some] at he;have hp1:cell s1.1 C t t=cell s.1 C r c:=(by rw[a2 t htC,hpc]);obtain ⟨b1,b2,b3,b4⟩:=Zf5 ht htC a1 (by omega) (by omega) (by rw[hp1];exact hne) hB;have hp2:cell s2.1 C t t=cell s.1 C r c:=(by rw[b2 t ht,hp1]);have hdn:(cell s.1 C r c).natAbs≠0:=(by omega);have small: ∀ i j,(t<=i/\i<R)->(t<=j/\j<C)->cell s2.1 C i j≠0->(cell s2.1 C i j).natAbs<(cell s.1 C r c).natAbs->0<=(Zab s2.1 C R t).1/\mu3 s2.1 C R t<mu3 s.1 C R t:=fun i j hi hj hn hlt=>(by obtain ⟨q1,q2⟩:=ZkI hi hj hn;refine ⟨q1, ?_⟩;unfold mu3;rw[hla];split<;>split<;>omega);have unclean:(ZJ s2.1 C R t&&Zau s2.1 C t)=false->0<=(Zab s2.1 C R t).1/\mu3 s2.1 C R t<mu3 s.1 C R t:=fun hcl=>by
    rw[Bool.and_eq_false_iff] at hcl;rcases hcl with hcl|hcl
    ·obtain ⟨i,hi1,hi2,hi3⟩: ∃ i,t<i/\i<R/\cell s2.1 C i t≠0:=by
      rcases Classical.em (∃ i,t<i/\i<R/\cell s2.1 C i t≠0) with hx|hx
      ·exact hx
      ·have:ZJ s2.1 C R t=true:=ZgK.2 fun i q1 q2=>Classical.byContradiction fun q3=>hx ⟨i,q1,q2,q3⟩;rw[this] at hcl;cases hcl
     have h5:=(a3 i (by omega) (by omega)).2;rw[hpc] at h5;exact small i t ⟨by omega,hi2⟩ ⟨Nat.le_refl _,htC⟩ hi3 (by rw[b2 i hi2];exact h5)
    ·obtain ⟨j,hj1,hj2,hj3⟩: ∃ j,t<j/\j<C/\cell s2.1 C t j≠0:=by
      rcases Classical.em (∃ j,t<j/\j<C/\cell s2.1 C t j≠0) with hx|hx
      ·exact hx
      ·have:Zau s2.1 C t=true:=ZgV.2 fun i q1 q2=>Classical.byContradiction fun q3=>hx ⟨i,q1,q2,q3⟩;rw[this] at hcl;cases hcl
     refine small t j ⟨Nat.le_refl _,ht⟩ ⟨by omega,hj2⟩ hj3 ?_;rw[b3 j (by omega) (by omega),hp1];have h5:=Int.emod_nonneg (cell s1.1 C t j) hne;have h6:=Int.emod_lt (cell s1.1 C t j) hne;omega
   cases hcl:(ZJ s2.1 C R t&&Zau s2.1 C t) with
   |false=>rw[hcl] at he;simp only[Bool.false_eq_true,if_false,Option.some.injEq,Prod.mk.injEq] at he;obtain ⟨rfl,rfl⟩:=he;exact ⟨b1,fun _=>unclean hcl⟩
   |true=>
    rw[hcl] at he;simp only[if_true] at he;have hcl2:=hcl;rw[Bool.and_eq_true] at hcl2;have hcc:=ZgK.1 hcl2.1;have hrc:=ZgV.1 hcl2.2;have hnd:Zg4 s.1 C R t=false:=(by rw[Bool.eq_false_iff];intro hd;unfold Zg4 at hd;simp only[Bool.and_eq_true,decide_eq_true_eq,List.any_eq_true] at hd;obtain ⟨⟨hd1,hd2⟩,d,hdr,hd3⟩:=hd;have hdr:=List.mem_range.1 hdr;obtain ⟨e1,e2⟩:=hfirst ⟨Nat.le_refl _,ht,Nat.le_refl _,htC⟩ hd1 (by rw[hd2,hla];exact Nat.le_refl _);have e3:=hfx e1 e2;have hz:=hrc (t+1+d) (by omega) (by omega);rw[b3 (t+1+d) (by omega) (by omega),a2 _ (by omega),a2 t htC,e3] at hz;simp[hz] at hd3);cases hdv:Zdi s2.1 C R t with
    |none=>rw[hdv] at he;simp only[Option.some.injEq,Prod.mk.injEq] at he;obtain ⟨rfl,rfl⟩:=he;exact ⟨b1,fun h=>by cases h⟩
    |some d=>
     rw[hdv] at he;simp only[Option.map_eq_some_iff,Prod.mk.injEq] at he;obtain ⟨s3,hs3,rfl,rfl⟩:=he;obtain ⟨c1,e3⟩:=ZcZ b1 hs3;refine ⟨c1,fun _=> ?_⟩;unfold Zdi at hdv;have hdr:=List.mem_range.1 (List.mem_of_find?_eq_some hdv);have hbad:=List.find?_some hdv;obtain ⟨j,hj1,hj2,hj3⟩:=Zgj.1 hbad;have hcell: ∀ k,k<C->cell s3.1 C t k=cell s2.1 C t k+cell s2.1 C (t+1+d) k*1:=fun k hk=>(by rw[e3];simp only;rw[Zbt b1.la ht hk,if_pos rfl]);have htt:cell s3.1 C t t=cell s.1 C r c:=(by rw[hcell t htC,hcc (t+1+d) (by omega) (by omega),hp2];simp);have htj:cell s3.1 C t j=cell s2.1 C (t+1+d) j:=(by rw[hcell j hj2,hrc j hj1 hj2];simp);obtain ⟨q1,q2⟩:=ZkI (m:=s3.1) (R:=R) ⟨Nat.le_refl t,ht⟩ ⟨Nat.le_refl t,htC⟩ (by rw[htt];exact hne);refine ⟨q1, ?_⟩;rw[htt] at q2;unfold mu3;rw[hnd,hla];by_cases hq:lsA s3.1 C R t=(cell s.1 C r c).natAbs
     ·have hdd:Zg4 s3.1 C R t=true:=(by unfold Zg4;simp only[Bool.and_eq_true,decide_eq_true_eq,List.any_eq_true];refine ⟨⟨by rw[htt];exact hne,by rw[htt,hq]⟩,j-(t+1),List.mem_range.2 (by omega), ?_⟩;rw[show t+1+(j-(t+1))=j by omega,htj,htt];rw[hp2] at hj3;simp only[bne_iff_ne,ne_eq];intro hx;exact hj3 (Int.tmod_eq_zero_of_dvd (Int.dvd_of_emod_eq_zero hx)));rw[hdd,hq];simp
     ·simp only[Bool.false_eq_true,if_false];split<;>omega
def Zdm (C R t:Nat):Nat->SS->Option SS
 |0,_=>none
 |n+1,s=>(rnd C R t s).bind fun x=>if x.2=true then some x.1 else Zdm C R t n x.1
theorem Zif {C R t:Nat} (ht:t<R) (htC:t<C): ∀ {n m:Nat} {s:SS},Ss C R s->0<=(Zab s.1 C R t).1->mu3 s.1 C R t<n->mu3 s.1 C R t<m->Zdm C R t n s=Zdm C R t m s
 |0,_,_,_,_,h,_=>by omega
 |_,0,_,_,_,_,h=>by omega
 |n+1,m+1,s,hs,hp,hn,hm=>by
  simp only[Zdm];cases hr:rnd C R t s with
  |none=>rfl
  |some x=>
   obtain ⟨s',b⟩:=x;obtain ⟨g1,g2⟩:=Zfe ht htC hs hp hr;cases b with
   |true=>rfl
   |false=>obtain ⟨g3,g4⟩:=g2 rfl;simp only[Option.bind_some,Bool.false_eq_true,if_false];exact Zif ht htC g1 g3 (by omega) (by omega)
def sA (C R t:Nat) (s:SS):Option SS:=Zdm C R t (mu3 s.1 C R t+1) s
theorem ZlM {t:Nat} (h:rnd C R t s=none):sA C R t s=none:=by
 unfold sA;simp only[Zdm,h];rfl
theorem Zl2 {t:Nat} (h:rnd C R t s=some (s',true)):sA C R t s=some s':=by
 unfold sA;simp only[Zdm,h];rfl
theorem ZlJ {t:Nat} (ht:t<R) (htC:t<C) (hs:Ss C R s) (hp:0<=(Zab s.1 C R t).1) (h:rnd C R t s=some (s',false)):sA C R t s=sA C R t s':=by
 obtain ⟨g1,g2⟩:=Zfe ht htC hs hp h;obtain ⟨g3,g4⟩:=g2 rfl;unfold sA;rw[show Zdm C R t (mu3 s.1 C R t+1) s=Zdm C R t (mu3 s.1 C R t) s' by simp only[Zdm,h];rfl];exact Zif ht htC g1 g3 g4 (by omega)
def Zdv (C R t:Nat) (s:SS):SS:=if cell s.1 C t t<0 then Zfi C R t s else s
def ZcC (C R:Nat):Nat->Nat->SS->Option SS
 |0,_,s=>some s
 |n+1,t,s=>if (Zab s.1 C R t).1<0 then some s else (sA C R t s).bind fun s'=>ZcC C R n (t+1) (Zdv C R t s')
def Zen (m:List Int) (R C:Nat):Option SS:=ZcC C R (min R C) 0 (m,idL R,idL C)
theorem ZpI {t:Nat} (h:Ss C R s):Ss C R (Zdv C R t s):=by
 unfold Zdv;split
 ·exact Zh1 h
 ·exact h
theorem Zj1 {C R t:Nat} (ht:t<R) (htC:t<C): ∀ {n:Nat} {s s':SS},Ss C R s->0<=(Zab s.1 C R t).1->Zdm C R t n s=some s'->Ss C R s'
 |0,_,_,_,_,h=>by cases h
 |n+1,s,s',hs,hp,h=>by
  simp only[Zdm] at h;cases hr:rnd C R t s with
  |none=>rw[hr] at h;cases h
  |some x=>
   obtain ⟨s1,b⟩:=x;obtain ⟨g1,g2⟩:=Zfe ht htC hs hp hr;rw[hr] at h;cases b with
   |true=>obtain rfl:=Option.some.inj h;exact g1
   |false=>exact Zj1 ht htC g1 (g2 rfl).1 h
theorem Zl0 {C R:Nat}: ∀ {n t:Nat} {s s':SS},Ss C R s->t+n<=R->t+n<=C->ZcC C R n t s=some s'->Ss C R s'
 |0,_,s,s',hs,_,_,h=>by obtain rfl:=Option.some.inj h;exact hs
 |n+1,t,s,s',hs,h1,h2,h=>by
  simp only[ZcC] at h;split at h
  ·obtain rfl:=Option.some.inj h;exact hs
  ·rename_i hp;cases ha:sA C R t s with
   |none=>rw[ha] at h;cases h
   |some s1=>rw[ha] at h;exact Zl0 (ZpI (Zj1 (by omega) (by omega) hs (by omega) ha)) (by omega) (by omega) (show ZcC C R n (t+1) (Zdv C R t s1)=some s' from h)
theorem Zik (hl:m.length=R*C) (hm:NumL m) (h:Zen m R C=some s):Ss C R s:=
 Zl0 ⟨hl,Zbi R,Zbi C,hm,Zbk R,Zbk C⟩ (by omega) (by omega) h
theorem Zm0 {b:Int} (ha: -400000000<=a/\a<=400000000) (hb: -400000000<=b/\b<=400000000) (ht: -400000000<=t/\t<=400000000) (h1:Zq (b*t)=true) (h2:Zq (a+b*t)=true):ZbO a (Za0 b t)=a+b*t:=by
 have e:Za0 b t=b*t:=by unfold Za0;rw[if_neg (by rintro (e|e);exact ZaM hb e;exact ZaM ht e),ZdC h1]
 rw[e];unfold ZbO;rw[if_neg (by rintro (e|e);exact ZaM ha e;exact ZaM (ZT.1 h1) e)];exact ZdC h2
theorem ZmR {b:Int} (hb: -400000000<=b/\b<=400000000) (ht: -400000000<=t/\t<=400000000) (h: ¬ (Zq (b*t)=true/\Zq (a+b*t)=true)):ZbO a (Za0 b t)=ZO:=by
 cases e1:Zq (b*t) with
 |false=>
  have e:Za0 b t=ZO:=by
   unfold Za0;split
   ·rfl
   ·exact Ze3 e1
  rw[e];unfold ZbO;rw[if_pos (.inr rfl)]
 |true=>
  have e:Za0 b t=b*t:=by unfold Za0;rw[if_neg (by rintro (e|e);exact ZaM hb e;exact ZaM ht e),ZdC e1]
  rw[e];have e2:Zq (a+b*t)=false:=by
   cases e2:Zq (a+b*t) with
   |false=>rfl
   |true=>exact (h ⟨e1,e2⟩).elim
  unfold ZbO;split
  ·rfl
  ·exact Ze3 e2
def Zef (m:List Int) (C i p:Nat) (t:Int) (r:Nat):Int:=ZbO (cell m C r i) (Za0 (cell m C r p) t)
def ZfF (f:Nat->Int) (m:List Int) (C R i k:Nat):List Int:=tab R C fun r c=>if r<k/\c=i then f r else cell m C r c
theorem Zd0 (f:Nat->Int) (m:List Int) (C R i k:Nat):(ZfF f m C R i k).length=R*C:=ZcO _ _ _
theorem ZdA (hr:r<R) (hc:c<C):cell (ZfF f m C R i k) C r c=if r<k/\c=i then f r else cell m C r c:=Zcc hr hc
theorem Znr (hl:m.length=R*C):ZfF f m C R i 0=m:=
 Zbj (Zd0 _ _ _ _ _ _) hl fun r c hr hc=>by rw[ZdA hr hc,if_neg (by omega)]
theorem Zgt {v:Int} (hl:m.length=R*C) (hi:i<R) (hj:j<C) (hc:c<C):cell (m.set (i*C+j) v) C r c=if r=i/\c=j then v else cell m C r c:=by
 have:=Zl hj hi;unfold cell;rw[ZdE (by omega)];by_cases e:r*C+c=i*C+j
 ·obtain ⟨e1,e2⟩:=Zch hc hj e;rw[if_pos e,if_pos ⟨e1,e2⟩]
 ·rw[if_neg e,if_neg (fun h=>e (by rw[h.1,h.2]))]
theorem Zoz (hi:i<C) (hk:k<R):(ZfF f m C R i k).set (k*C+i) (f k)=ZfF f m C R i (k+1):=
 Zbj (by rw[List.length_set,Zd0]) (Zd0 _ _ _ _ _ _) fun r c hr hc=>by
  rw[Zgt (Zd0 _ _ _ _ _ _) hk hi hc,ZdA hr hc,ZdA hr hc];by_cases e:r=k/\c=i
  ·obtain ⟨rfl,rfl⟩:=e;rw[if_pos ⟨rfl,rfl⟩,if_pos ⟨by omega,rfl⟩]
  ·rw[if_neg e];by_cases e2:r<k/\c=i
   ·rw[if_pos e2,if_pos ⟨by omega,e2.2⟩]
   ·rw[if_neg e2,if_neg];rintro ⟨h1,h2⟩;by_cases e3:r=k
    ·exact e ⟨e3,h2⟩
    ·exact e2 ⟨by omega,h2⟩
def Zcs (m:List Int) (C R i p:Nat) (t:Int):List Int:=ZfF (Zef m C i p t) m C R i R
theorem ZcB (m:List Int) (C R i p:Nat) (t:Int):(Zcs m C R i p t).length=R*C:=Zd0 _ _ _ _ _ _
theorem Zek (hr:r<R) (hc:c<C):cell (Zcs m C R i p t) C r c=if c=i then Zef m C i p t r else cell m C r c:=by
 unfold Zcs;rw[ZdA hr hc];by_cases e:c=i
 ·rw[if_pos ⟨hr,e⟩,if_pos e]
 ·rw[if_neg (fun h=>e h.2),if_neg e]
theorem ZgY (h:NumL m) (ht: -400000000<=t/\t<=400000000) (hok:Zbr m C R i p t=true):Zcs m C R i p t=Zdk m C R i p t:=
 Zbj (ZcB _ _ _ _ _ _) (Zhd _ _ _ _ _ _) fun r c hr hc=>by
  rw[Zek hr hc,Zey hr hc];split
  ·have:=ZdM.1 hok r hr;exact Zm0 (Zr h C r i) (Zr h C r p) ht this.1 this.2
  ·rfl
theorem Zj4 (hl:m.length=R*C) (hi:i<R) (hj:j<C):cell m C i j∈m:=ZhO (by rw[hl];exact Zl hj hi)
theorem ZgZ (hi:i<C) (h:NumL m) (ht: -400000000<=t/\t<=400000000) (hok:Zbr m C R i p t=false):ZO∈Zcs m C R i p t:=by
 obtain ⟨r,hr,hno⟩: ∃ r,r<R/\ ¬ (Zq (cell m C r p*t)=true/\Zq (cell m C r i+cell m C r p*t)=true):=by
  rcases Classical.em (∃ r,r<R/\ ¬ (Zq (cell m C r p*t)=true/\Zq (cell m C r i+cell m C r p*t)=true)) with h1|h1
  ·exact h1
  ·have:Zbr m C R i p t=true:=ZdM.2 fun k hk=>Classical.byContradiction fun h2=>h1 ⟨k,hk,h2⟩;rw[this] at hok;cases hok
 have e:cell (Zcs m C R i p t) C r i=ZO:=by rw[Zek hr hi,if_pos rfl];exact ZmR (Zr h C r p) ht hno
 rw[←e];exact Zj4 (ZcB _ _ _ _ _ _) hr hi
theorem Zkc {x:Int} (hl:m.length=R*C) (hx:x∈m): ∃ r c,r<R/\c<C/\cell m C r c=x:=by
 obtain ⟨k,hk,rfl⟩:=List.mem_iff_getElem.1 hx;have hC:0<C:=by
  rcases Nat.eq_zero_or_pos C with e|e
  ·subst e;simp at hl;subst hl;simp at hk
  ·exact e
 refine ⟨k/C,k%C,Nat.div_lt_of_lt_mul (by rw[Nat.mul_comm];omega),Nat.mod_lt _ hC, ?_⟩;unfold cell;rw[show k/C*C+k%C=k by rw[Nat.mul_comm];exact Nat.div_add_mod k C];simp[List.getD,List.getElem?_eq_getElem hk]
theorem ZfC (hl:m.length=R*C) (hb:ZO∈m):ZO∈Zcs m C R i p t:=by
 obtain ⟨r,c,hr,hc,e⟩:=Zkc hl hb;have e2:cell (Zcs m C R i p t) C r c=ZO:=by
  rw[Zek hr hc];split
  ·rename_i h;subst h;unfold Zef;rw[e,ZjQ]
  ·exact e
 rw[←e2];exact Zj4 (ZcB _ _ _ _ _ _) hr hc
theorem ZgW (h:NumBL m):NumBL (Zcs m C R i p t):=fun x hx=>by
 obtain ⟨r,c,hr,hc,rfl⟩:=Zkc (ZcB _ _ _ _ _ _) hx;rw[Zek hr hc];split
 ·exact ZnD _ _
 ·exact h.getD _
structure Hm3 (C R:Nat) (s:SS):Prop where
 la:s.1.length=R*C
 lu:s.2.1.length=R*R
 lv:s.2.2.length=C*C
 na:NumBL s.1
 nu:NumBL s.2.1
 nv:NumBL s.2.2
def Mk3 (s:SS):Prop:=ZO∈s.1\/ZO∈s.2.1\/ZO∈s.2.2
theorem Ss.hm (h:Ss C R s):Hm3 C R s:=⟨h.la,h.lu,h.lv,h.na.bl,h.nu.bl,h.nv.bl⟩
theorem Ss.no (h:Ss C R s): ¬ Mk3 s:=by
 rintro (hb|hb|hb)
 ·exact ZaM (h.na _ hb) rfl
 ·exact ZaM (h.nu _ hb) rfl
 ·exact ZaM (h.nv _ hb) rfl
def ZbT (C R i p:Nat) (t:Int) (s:SS):SS:=(Za5 s.1 C i p t,Za5 s.2.1 R i p t,s.2.2)
def ZeC (C R i p:Nat) (t:Int) (s:SS):SS:=(Zcs s.1 C R i p t,s.2.1,Zcs s.2.2 C C i p t)
theorem Zjn (h:Hm3 C R s):Hm3 C R (ZbT C R i p t s):=⟨by simp[ZbT,ZcY,h.la],by simp[ZbT,ZcY,h.lu],h.lv,Zdo h.na,Zdo h.nu,h.nv⟩
theorem Znb (h:Hm3 C R s):Hm3 C R (ZeC C R i p t s):=⟨ZcB _ _ _ _ _ _,h.lu,ZcB _ _ _ _ _ _,ZgW h.na,h.nu,ZgW h.nv⟩
theorem ZjB (h:Hm3 C R s) (hi:i<R) (hb:Mk3 s):Mk3 (ZbT C R i p t s):=by
 rcases hb with hb|hb|hb
 ·exact .inl (ZeO h.la hi hb)
 ·exact .inr (.inl (ZeO h.lu hi hb))
 ·exact .inr (.inr hb)
theorem ZnF (h:Hm3 C R s) (hb:Mk3 s):Mk3 (ZeC C R i p t s):=by
 rcases hb with hb|hb|hb
 ·exact .inl (ZfC h.la hb)
 ·exact .inr (.inl hb)
 ·exact .inr (.inr (ZfC h.lv hb))
theorem Ze1 (h:Ss C R s) (hi:i<R) (ht: -400000000<=t/\t<=400000000):(ZaP C R i p t s=some (ZbT C R i p t s))\/(ZaP C R i p t s=none/\Mk3 (ZbT C R i p t s)):=by
 unfold ZaP ZbT;cases h1:Zah s.1 C i p t with
 |false=>exact .inr ⟨rfl, .inl (Zgw h.la hi h.na ht h1)⟩
 |true=>
  cases h2:Zah s.2.1 R i p t with
  |false=>exact .inr ⟨rfl, .inr (.inl (Zgw h.lu hi h.nu ht h2))⟩
  |true=>exact .inl (by rw[Zgp h.na ht h1,Zgp h.nu ht h2];rfl)
theorem Zkz (h:Ss C R s) (hi:i<C) (ht: -400000000<=t/\t<=400000000):(Zbp C R i p t s=some (ZeC C R i p t s))\/(Zbp C R i p t s=none/\Mk3 (ZeC C R i p t s)):=by
 unfold Zbp ZeC;cases h1:Zbr s.1 C R i p t with
 |false=>exact .inr ⟨rfl, .inl (ZgZ hi h.na ht h1)⟩
 |true=>
  cases h2:Zbr s.2.2 C C i p t with
  |false=>exact .inr ⟨rfl, .inr (.inr (ZgZ hi h.nv ht h2))⟩
  |true=>exact .inl (by rw[ZgY h.na ht h1,ZgY h.nv ht h2];rfl)
theorem Zh0 (a:Option Addr) (n cp C R i p:Nat) (t:Int) (m:List Int) (w:World) (h:Own w 3 1 a n cp (ints m)) (hmR:m.length=R*C) (hi:i<C) (hp:p<C) (_hip:i≠p) (hm:NumBL m) (ht:NumS t) (hR:R<=24) (hC:C<=24):
  Calls Tryz.prog 152 #[.agg #[Yv Yi R,Yv Yi C, .slice a n cp], .agg #[Yv Yi 2,Yv Yi i,Yv Yi p,Yv Yi t]] w fun e w'=>e= .returned (.tuple #[])/\Own w' 3 1 a n cp (ints (Zcs m C R i p t))/\Keep (fun q=>blk a≠some q) w w':=by
 have hRC:R*C<=24*24:=Nat.mul_le_mul hR hC;obtain ⟨kd,hkd⟩: ∃ kd:Int,kd=2:=⟨_,rfl⟩;rw[←hkd];have hl:m.length=n:=by simpa using h.len
 obtain ⟨w2,hw2,hG2,bM,bX, -⟩:=al2 w #[Yv Yi (R:Int),Yv Yi (C:Int), .slice a n cp] 28 #[Yv Yi kd,Yv Yi (i:Int),Yv Yi (p:Int),Yv Yi t] 131;have hO0:Own w2 3 1 a n cp (ints m):=h.grow hG2;have nM:blk a≠some w.heap.size:=fun e=>by have:=h.lt e;omega
 have nX:blk a≠some (w.heap.size+1):=fun e=>by have:=h.lt e;omega
 have Hw2:=hid hw2;clear hw2;clear h;subst hkd;rw[←Znr (f:=Zef m C i p t) (i:=i) hmR] at hO0;have HmR:=hid hmR;have Hnl:=hid (show R*C=n by rw[←hl,hmR]);have hn576:n<=576:=by rw[←Hnl.out];omega
 clear hmR hl hRC;go_enter Tryz.func152,Tryz.ntmps152;go_wp2;rw[←Hw2.out];go_loopw [4] (fun q wr=>Keep (fun q=>blk a≠some q) w2 wr/\ ∃ k:Nat,k<=R/\q=Yv Yi k/\Own wr 3 1 a n cp (ints (ZfF (Zef m C i p t) m C R i k))) (fun q _=>R-(intOf q).toNat);case atStart=>exact ⟨Keep.refl _ _,0,Nat.zero_le _,rfl,hO0⟩
 case round=>
  clear hO0;obtain ⟨hK,k,hk,rfl,hO⟩:=hrel;have bMr:=bM.keep hK nM;obtain ⟨⟨a0,a1,a2⟩, -⟩:=bMr.three;have hltM:=bMr.lt;by_cases hlt:k<R
  ·have bXr:=bX.keep hK nX;have x0:=bXr.cell 0;have x1:=bXr.cell 1;have x2:=bXr.cell 2;have x3:=bXr.cell 3;have hltX:=bXr.lt;simp only[List.getElem?_toArray,List.getElem?_cons_zero,List.getElem?_cons_succ] at x0 x1 x2 x3;have hlen:(ZfF (Zef m C i p t) m C R i k).length=n:=(by rw[Zd0,Hnl.out]);have hlx:k*C+i<n:=(by rw[←Hnl.out];exact Zl hi hlt);have hly:k*C+p<n:=(by rw[←Hnl.out];exact Zl hp hlt);have hg1:(ZfF (Zef m C i p t) m C R i k).getD (k*C+i) 0=cell m C k i:=(by have:=ZdA (f:=Zef m C i p t) (m:=m) (i:=i) (k:=k) hlt hi;rw[if_neg (by omega)] at this;exact this);have hg2:(ZfF (Zef m C i p t) m C R i k).getD (k*C+p) 0=cell m C k p:=(by have:=ZdA (f:=Zef m C i p t) (m:=m) (i:=i) (k:=k) hlt hp;rw[if_neg (by omega)] at this;exact this);obtain ⟨pb,rfl⟩: ∃ pb,a=some ⟨pb,0,none⟩:=by
    cases a with
    |none=>have:=hO.nil rfl;have:=hO.le;omega
    |some q=>exact ⟨q.block,by rw[←(hO.block q rfl).1]⟩
   have hc1:=hO.cell (ZaH (by omega) hg1);have hc2:=hO.cell (ZaH (by omega) hg2);have hfr:=hO.free (k*C+i);have hpb:=hO.lt (g:=pb) rfl;have hsA:NumS (cell m C k i):=hm.getD _;have hsB:NumS (cell m C k p):=hm.getD _;have u1:=Zaf (i:=k) (c:=C) (by omega) (by omega);have u2:=ZaI (i:=k) (c:=C) (j:=i) (by omega) (by omega) (by omega) rfl;have u4:=ZaI (i:=k) (c:=C) (j:=p) (by omega) (by omega) (by omega) rfl;have hle:=hO.le;have Hv:=hid (show Zef m C i p t k=ZbO (cell m C k i) (Za0 (cell m C k p) t) from rfl);have hO9:=(hO.set (k*C+i) (Yv Yi (Zef m C i p t k))).grow (Grow.refl _).drew;rw[←ints_set,Zoz hi hlt] at hO9;clear hO hg1 hg2 hlen;generalize cell m C k i=ca at *;generalize cell m C k p=cb at *;generalize hix:k*C+i=ix at *;generalize hiy:k*C+p=iy at *;clear hix hiy;simp only at hc1 hc2 hfr hO9;go_wp2;refine Zdl (S:=(Keep (fun q=>blk (some (⟨pb,0,none⟩:Addr))≠some q) wr)) [0,1,2,3,4,5,6,7,8,9,10,11,12] [13,14,15,16] Zm (by kernel_rfl) (fun _ _ _ _ _ h=>h) (Keep.refl _ _).drew ?_;show wpQuiet _ _ _ (fun a'=>ZaS _ _ _ _ [_,_,_,_] a' _) [_,_,_,_,_,_,_,_,_,_,_,_,_] _;(repeat (first |go_big_quiet_skip|(go_big_quiet_want;first |(apply Za ZaC;rfl;rfl;exact (fun w' hG=>hG.cell nM a2);go_big_quiet_on;simp only[putP])|(apply Za ZM;rfl;rfl;exact (fun w' hG=>hG.cell nX x1);go_big_quiet_on;simp only[putP])|(apply Za ZM;rfl;rfl;exact (fun w' hG=>hG.cell nM a1);go_big_quiet_on;simp only[putP])|(apply Za ZM;rfl;rfl;exact (fun w' hG=>hG.cell nX x3);go_big_quiet_on;simp only[putP])|(go_big_quiet_op;first |go_big_quiet_on|(refine ⟨_,(fun _ _=>rfl), ?_⟩;go_big_quiet_on)))));refine wpQuiet_nil ?_;show ZaS _ _ _ _ _ _ _;refine Z5 rfl (fun K hK=> ?_);go_wp2_with fail;refine (ZiG cb t _ hsB ht).mono ?_;rintro e _ ⟨rfl,rfl⟩;go_wp2_with fail;refine hK _ _ ((Keep.refl _ _).drew) ?_;clear hK K;refine Z5 rfl (fun K hK=> ?_);go_wp2_with fail;refine (Zlz ca (Za0 cb t) _ hsA (ZnT _ _)).mono ?_;rintro e _ ⟨rfl,rfl⟩;rw[←Hv.out];go_wp2_with fail;refine hK _ _ ((Keep.refl _ _).drew) ?_;clear hK K;refine Z5 rfl (fun K hK=> ?_);go_wp2_with fail;refine hK _ _ ((Keep.refl _ _).drew) ?_;clear hK K;refine Z5 rfl (fun K hK=> ?_);go_wp2_with fail;have hKs:Keep (fun q=>blk (some (⟨pb,0,none⟩:Addr))≠some q) wr (wr.setCell ⟨pb,ix,none⟩ (Yv Yi (Zef m C i p t k))).drew:=((Keep.refl _ wr).setCell (p:=⟨pb,ix,none⟩) (fun _ e=>e rfl) _).drew;refine hK _ _ (hKs) ?_;clear hK K;refine Zet ?_;go_wp2;go_roundw;case rel=>exact ⟨hK.trans hKs,k+1,by omega,by go_num,hO9⟩
   case measure=>simp[intOf];omega
  ·have hkC:k=R:=(by omega);rw[hkC] at hO;go_wp2;exact bodyPost_end (results_none rfl _ _ _) rfl ⟨rfl,hO,(hG2.any).on hK (fun q hq hne=>hne)⟩
def ZfJ (m:List Int) (C R i p k:Nat):List Int:=tab R C fun r c=>if r<k then (if c=i then cell m C r p else if c=p then cell m C r i else cell m C r c) else cell m C r c
theorem Zdw (m:List Int) (C R i p k:Nat):(ZfJ m C R i p k).length=R*C:=ZcO _ _ _
theorem ZdB (hr:r<R) (hc:c<C):cell (ZfJ m C R i p k) C r c=if r<k then (if c=i then cell m C r p else if c=p then cell m C r i else cell m C r c) else cell m C r c:=Zcc hr hc
theorem Zn1 (hl:m.length=R*C):ZfJ m C R i p 0=m:=Zbj (Zdw _ _ _ _ _ _) hl fun r c hr hc=>by rw[ZdB hr hc,if_neg (by omega)]
theorem Zo9:ZfJ m C R i p R=Zfb m C R i p:=Zbj (Zdw _ _ _ _ _ _) (ZhK _ _ _ _ _) fun r c hr hc=>by rw[ZdB hr hc,if_pos hr,Zn7 hr hc]
theorem Zo0 (hi:i<C) (hp:p<C) (hip:i≠p) (hk:k<R):((ZfJ m C R i p k).set (k*C+i) (cell m C k p)).set (k*C+p) (cell m C k i)=ZfJ m C R i p (k+1):=
 Zbj (by rw[List.length_set,List.length_set,Zdw]) (Zdw _ _ _ _ _ _) fun r c hr hc=>by
  rw[Zgt (by rw[List.length_set,Zdw]) hk hp hc,Zgt (Zdw _ _ _ _ _ _) hk hi hc,ZdB hr hc,ZdB hr hc];by_cases e:r=k
  ·subst e;rw[if_pos (show r<r+1 by omega)];by_cases e1:c=i
   ·subst e1;rw[if_neg (by omega),if_pos ⟨rfl,rfl⟩,if_pos rfl]
   ·by_cases e2:c=p
    ·subst e2;rw[if_pos ⟨rfl,rfl⟩,if_neg e1,if_pos rfl]
    ·rw[if_neg (by omega),if_neg (by omega),if_neg (by omega),if_neg e1,if_neg e2]
  ·rw[if_neg (by omega),if_neg (by omega)];by_cases e1:r<k
   ·rw[if_pos e1,if_pos (show r<k+1 by omega)]
   ·rw[if_neg e1,if_neg (show ¬ r<k+1 by omega)]
theorem Zg1 (a:Option Addr) (n cp C R i p:Nat) (t:Int) (m:List Int) (w:World) (h:Own w 3 1 a n cp (ints m)) (hmR:m.length=R*C) (hi:i<C) (hp:p<C) (hip:i≠p) (hR:R<=24) (hC:C<=24):
  Calls Tryz.prog 152 #[.agg #[Yv Yi R,Yv Yi C, .slice a n cp], .agg #[Yv Yi 0,Yv Yi i,Yv Yi p,Yv Yi t]] w fun e w'=>e= .returned (.tuple #[])/\Own w' 3 1 a n cp (ints (Zfb m C R i p))/\Keep (fun q=>blk a≠some q) w w':=by
 have hRC:R*C<=24*24:=Nat.mul_le_mul hR hC;obtain ⟨kd,hkd⟩: ∃ kd:Int,kd=0:=⟨_,rfl⟩;rw[←hkd];have hl:m.length=n:=by simpa using h.len
 obtain ⟨w2,hw2,hG2,bM,bX, -⟩:=al2 w #[Yv Yi (R:Int),Yv Yi (C:Int), .slice a n cp] 28 #[Yv Yi kd,Yv Yi (i:Int),Yv Yi (p:Int),Yv Yi t] 131;have hO0:Own w2 3 1 a n cp (ints m):=h.grow hG2;have nM:blk a≠some w.heap.size:=fun e=>by have:=h.lt e;omega
 have nX:blk a≠some (w.heap.size+1):=fun e=>by have:=h.lt e;omega
 have Hw2:=hid hw2;clear hw2;clear h;subst hkd;rw[←Zn1 (i:=i) (p:=p) hmR] at hO0;have HmR:=hid hmR;have Hnl:=hid (show R*C=n by rw[←hl,hmR]);have hn576:n<=576:=by rw[←Hnl.out];omega
 clear hmR hl hRC;go_enter Tryz.func152,Tryz.ntmps152;go_wp2;rw[←Hw2.out];go_loopw [4] (fun q wr=>Keep (fun q=>blk a≠some q) w2 wr/\ ∃ k:Nat,k<=R/\q=Yv Yi k/\Own wr 3 1 a n cp (ints (ZfJ m C R i p k))) (fun q _=>R-(intOf q).toNat);case atStart=>exact ⟨Keep.refl _ _,0,Nat.zero_le _,rfl,hO0⟩
 case round=>
  clear hO0;obtain ⟨hK,k,hk,rfl,hO⟩:=hrel;have bMr:=bM.keep hK nM;obtain ⟨⟨a0,a1,a2⟩, -⟩:=bMr.three;have hltM:=bMr.lt;by_cases hlt:k<R
  ·have bXr:=bX.keep hK nX;have x0:=bXr.cell 0;have x1:=bXr.cell 1;have x2:=bXr.cell 2;have x3:=bXr.cell 3;have hltX:=bXr.lt;simp only[List.getElem?_toArray,List.getElem?_cons_zero,List.getElem?_cons_succ] at x0 x1 x2 x3;have hlen:(ZfJ m C R i p k).length=n:=(by rw[Zdw,Hnl.out]);have hlx:k*C+i<n:=(by rw[←Hnl.out];exact Zl hi hlt);have hly:k*C+p<n:=(by rw[←Hnl.out];exact Zl hp hlt);have hg1:(ZfJ m C R i p k).getD (k*C+i) 0=cell m C k i:=(by have:=ZdB (m:=m) (i:=i) (p:=p) (k:=k) hlt hi;rw[if_neg (by omega)] at this;exact this);have hg2:(ZfJ m C R i p k).getD (k*C+p) 0=cell m C k p:=(by have:=ZdB (m:=m) (i:=i) (p:=p) (k:=k) hlt hp;rw[if_neg (by omega)] at this;exact this);obtain ⟨pb,rfl⟩: ∃ pb,a=some ⟨pb,0,none⟩:=by
    cases a with
    |none=>have:=hO.nil rfl;have:=hO.le;omega
    |some q=>exact ⟨q.block,by rw[←(hO.block q rfl).1]⟩
   have hc1:=hO.cell (ZaH (by omega) hg1);have hc2:=hO.cell (ZaH (by omega) hg2);have hfr:=hO.free (k*C+i);have hfr2:=hO.free (k*C+p);have hpb:=hO.lt (g:=pb) rfl;have hcx:k*C+i≠k*C+p:=(by omega);have u1:=Zaf (i:=k) (c:=C) (by omega) (by omega);have u2:=ZaI (i:=k) (c:=C) (j:=i) (by omega) (by omega) (by omega) rfl;have u4:=ZaI (i:=k) (c:=C) (j:=p) (by omega) (by omega) (by omega) rfl;have hle:=hO.le;have hO9:=(hO.set (k*C+i) (Yv Yi (cell m C k p))).set (k*C+p) (Yv Yi (cell m C k i));rw[←ints_set, ←ints_set,Zo0 hi hp hip hlt] at hO9;clear hO hg1 hg2 hlen;generalize cell m C k i=ca at *;generalize cell m C k p=cb at *;generalize hix:k*C+i=ix at *;generalize hiy:k*C+p=iy at *;have hKs:Keep (fun q=>blk (some (⟨pb,0,none⟩:Addr))≠some q) wr ((wr.setCell ⟨pb,ix,none⟩ (Yv Yi cb)).setCell ⟨pb,iy,none⟩ (Yv Yi ca)):=((Keep.refl _ wr).setCell (p:=⟨pb,ix,none⟩) (fun _ e=>e rfl) _).setCell (p:=⟨pb,iy,none⟩) (fun _ e=>e rfl) _;clear hix hiy;simp only at hc1 hc2 hfr hfr2 hO9;have nMb:pb≠w.heap.size:=fun e=>nM (by rw[e];rfl);have nXb:pb≠w.heap.size+1:=fun e=>nX (by rw[e];rfl);go_wp2;go_roundw;case rel=>exact ⟨hK.trans hKs,k+1,by omega,by go_num,hO9⟩
   case measure=>simp[intOf];omega
  ·have hkC:k=R:=(by omega);rw[hkC,Zo9] at hO;go_wp2;exact bodyPost_end (results_none rfl _ _ _) rfl ⟨rfl,hO,(hG2.any).on hK (fun q hq hne=>hne)⟩
def Rg (R C:Nat) (b:Int×Int):Prop:=b=(-1, -1)\/ ∃ r c:Nat,b=((r:Int),(c:Int))/\r<R/\c<C
theorem Ziq {m:List Int} {C R t i:Nat} {b:Int×Int} (hi:i<R) (hb:Rg R C b): ∀ n,t+n<=C->Rg R C (lsJ m C t i n b)
 |0,_=>hb
 |n+1,hn=>by
  simp only[lsJ];split
  ·exact .inr ⟨i,t+n,rfl,hi,by omega⟩
  ·exact Ziq hi hb n (by omega)
theorem Zk3 {m:List Int} {C R t:Nat} (htC:t<=C): ∀ n,t+n<=R->Rg R C (lsI m C t n)
 |0,_=> .inl rfl
 |n+1,hn=>Ziq (by omega) (Zk3 htC n (by omega)) _ (by omega)
theorem Zio (h:cell m C i j=0):Zcj m C b i j=false:=by unfold Zcj;rw[decide_eq_false (by simp[h])];rfl
theorem ZhD (h:cell m C i j≠0):Zcj m C (-1, -1) i j=true:=by unfold Zcj;rw[decide_eq_true h];rfl
theorem ZkF (h:cell m C i j≠0):Zcj m C ((r:Int),(c:Int)) i j=decide ((cell m C i j).natAbs<(cell m C r c).natAbs):=by
 unfold Zcj;rw[decide_eq_true h,decide_eq_false (by simp)];simp
theorem Zmi {S:Nat->Prop} (a:Option Addr) (n cp C R t:Nat) (cells:List Int) (w:World) (h:RdI w S a n cp cells) (hl:cells.length=R*C) (hn:NumL cells) (ht:t<=R) (htC:t<=C) (hR:R<=24) (hC:C<=24):
  Calls Tryz.prog 151 #[.agg #[Yv Yi R,Yv Yi C, .slice a n cp],Yv Yi t] w fun e w'=>e= .returned (.tuple #[Yv Yi (Zab cells C R t).1,Yv Yi (Zab cells C R t).2])/\Grow w w':=by
 have hnl:=h.len;obtain ⟨w2,hw2,hG2,bM, -⟩:=al1 w #[Yv Yi (R:Int),Yv Yi (C:Int), .slice a n cp] 28;have Hw2:=hid hw2;clear hw2;have Hnl:=hid (show R*C=n by rw[←hnl,hl]);clear hl hnl;replace h:=h.grow hG2;go_enter Tryz.func151,Tryz.ntmps151;go_wp2;rw[←Hw2.out];go_loopw [6,7,8] (fun x y q wr=>Grow w2 wr/\ ∃ i:Nat,t<=i/\i<=R/\q=Yv Yi i/\x=Yv Yi (lsI cells C t (i-t)).1/\y=Yv Yi (lsI cells C t (i-t)).2) (fun _ _ q _=>R-(intOf q).toNat);case atStart=>exact ⟨Grow.refl _,t,Nat.le_refl _,ht,rfl,by rw[Nat.sub_self];rfl,by rw[Nat.sub_self];rfl⟩
 case round=>
  obtain ⟨wo,rfl⟩: ∃ wo,wo=wr:=⟨_,rfl⟩;obtain ⟨hG,i,hti,hi,rfl,rfl,rfl⟩:=hrel;have bMr:=bM.grow hG;obtain ⟨⟨a0,a1,a2⟩, -⟩:=bMr.three;have hltM:=bMr.lt;have hrg:=Zk3 (m:=cells) (R:=R) htC (i-t) (by omega);by_cases hlt:i<R
  ·have hE:=hid (show lsJ cells C t i (C-t) (lsI cells C t (i-t))=lsI cells C t (i+1-t) by rw[show i+1-t=(i-t)+1 by omega];simp only[lsI];rw[show t+(i-t)=i by omega]);generalize lsI cells C t (i-t)=b0 at *;go_wp2;go_loopw [6,7,9] (fun x y q v=>Grow w2 v/\ ∃ j:Nat,t<=j/\j<=C/\q=Yv Yi j/\x=Yv Yi (lsJ cells C t i (j-t) b0).1/\y=Yv Yi (lsJ cells C t i (j-t) b0).2) (fun _ _ q _=>C-(intOf q).toNat);case atStart=>exact ⟨hG,t,Nat.le_refl _,htC,rfl,by rw[Nat.sub_self];rfl,by rw[Nat.sub_self];rfl⟩
   case round=>
    clear a0 a1 a2 hltM bMr hG;obtain ⟨hG,j,htj,hj,rfl,rfl,rfl⟩:=hrel;have bMr:=bM.grow hG;have hr:=h.grow hG;obtain ⟨⟨a0,a1,a2⟩, -⟩:=bMr.three;have hltM:=bMr.lt;have hrj:=Ziq (m:=cells) (t:=t) hlt hrg (j-t) (by omega);have hstep:=hid (show lsJ cells C t i (j+1-t) b0=if Zcj cells C (lsJ cells C t i (j-t) b0) i j=true then ((i:Int),(j:Int)) else lsJ cells C t i (j-t) b0 by rw[show j+1-t=(j-t)+1 by omega];simp only[lsJ];rw[show t+(j-t)=j by omega]);by_cases hdC:j<C
    ·have hni:i*C+j<n:=(by rw[←Hnl.out];exact Zl hdC hlt);have hx:=Zr hn C i j;go_wp2_with fail;refine (ZK a n cp C i j (R:Int) cells _ hr hni (by omega) (by omega) (by omega)).mono ?_;rintro e w3 ⟨rfl,hG3⟩;clear hni;go_wp2_with fail;refine (ZdD _ _ (by omega)).mono ?_;rintro e _ ⟨rfl,rfl⟩;replace hr:=hr.grow hG3;replace bMr:=bMr.grow hG3;have hGn:=hG.trans hG3;clear a0 a1 a2 hltM hG hG3;obtain ⟨⟨a0,a1,a2⟩, -⟩:=bMr.three;have hltM:=bMr.lt;generalize lsJ cells C t i (j-t) b0=b at *;by_cases hx0:cell cells C i j=0
     ·have HL:=hid (show lsJ cells C t i (j+1-t) b0=b by rw[hstep.out,Zio hx0];rfl);rw[hx0];clear hstep hx hx0;clear a0 a1 a2;go_wp2;go_roundw;case rel=>exact ⟨hGn,j+1,by omega,by omega,by go_num,by rw[HL.out]<;>try go_num,by rw[HL.out]<;>try go_num⟩
      case measure=>simp[intOf];omega
     ·rcases hrj with rfl|⟨r,c,rfl,hrR,hcC⟩
      ·have HL:=hid (show lsJ cells C t i (j+1-t) b0=((i:Int),(j:Int)) by rw[hstep.out,ZhD hx0,if_pos rfl]);have q1:(((cell cells C i j).natAbs:Int)!=0)=true:=(by simp;omega);clear hstep;generalize cell cells C i j=x at *;clear a0 a1 a2;go_wp2;go_roundw;case rel=>exact ⟨hGn,j+1,by omega,by omega,by go_num,by rw[HL.out]<;>try go_num,by rw[HL.out]<;>try go_num⟩
       case measure=>simp[intOf];omega
      ·have hbe:=ZkF (r:=r) (c:=c) hx0;have hnp:r*C+c<n:=(by rw[←Hnl.out];exact Zl hcC hrR);have hy:=Zr hn C r c;have q1:(((cell cells C i j).natAbs:Int)!=0)=true:=(by simp;omega);have q2:decide ((r:Int)<0)=false:=decide_eq_false (by omega);rw[hbe] at hstep;clear hbe;generalize cell cells C i j=x at *;go_wp2_with fail;refine (ZK a n cp C r c (R:Int) cells _ hr hnp (by omega) (by omega) (by omega)).mono ?_;rintro e w4 ⟨rfl,hG4⟩;clear hnp;generalize cell cells C r c=y at *;go_wp2_with fail;refine (ZdD _ _ (by omega)).mono ?_;rintro e _ ⟨rfl,rfl⟩;replace hGn:=hGn.trans hG4;by_cases hc:x.natAbs<y.natAbs
       ·have HL:=hid (show lsJ cells C t i (j+1-t) b0=((i:Int),(j:Int)) by rw[hstep.out,decide_eq_true hc,if_pos rfl]);clear hstep;clear a0 a1 a2;go_wp2;go_roundw;case rel=>exact ⟨hGn,j+1,by omega,by omega,by go_num,by rw[HL.out]<;>try go_num,by rw[HL.out]<;>try go_num⟩
        case measure=>simp[intOf];omega
       ·have HL:=hid (show lsJ cells C t i (j+1-t) b0=((r:Int),(c:Int)) by rw[hstep.out,decide_eq_false hc];rfl);clear hstep;clear a0 a1 a2;go_wp2;go_roundw;case rel=>exact ⟨hGn,j+1,by omega,by omega,by go_num,by rw[HL.out]<;>try go_num,by rw[HL.out]<;>try go_num⟩
        case measure=>simp[intOf];omega
    ·have hdE:j=C:=(by omega);subst hdE;clear hstep hrj;go_wp2;go_roundw;case rel=>exact ⟨hG,i+1,by omega,by omega,by go_num,by rw[hE.out],by rw[hE.out]⟩
     case measure=>simp[intOf];omega
  ·have hkE:i=R:=(by omega);subst hkE;go_wp2
   go_ret2
   exact ⟨rfl,hG2.trans hG⟩

end Go.Proofs.YtgeoehnbpkediaaGreat
