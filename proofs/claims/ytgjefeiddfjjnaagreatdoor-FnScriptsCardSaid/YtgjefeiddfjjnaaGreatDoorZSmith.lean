/- The Smith form, as plain Lean: cells row by row, the three matrices together; nothing where a number is beyond the limit. -/
import Derived.Test.YtgjefeiddfjjnaaGreatDoorZHermF
set_option maxHeartbeats 8000000
set_option maxRecDepth 100000
namespace Go.Proofs.YtgjefeiddfjjnaaGreatDoor
open Go.RowKit
open Lib (hid)
open Go.Value renaming int->Yv
open Go.IntKind renaming i64->Yi
open Bool renaming and_eq_true->JQ,false_eq_true->LB
open Classical renaming byContradiction->LV,em->Mg
open Keep renaming refl->JO
open List renaming any_eq_true->Mo,getD->KJ,getElem?_cons_succ->Kx,getElem?_cons_zero->Ku,getElem?_eq_getElem->JR,getElem?_toArray->Kt,length_set->KZ,mem_range->JW,range->JN
open Nat renaming div_add_mod->N0,div_lt_of_lt_mul->Mv,eq_zero_or_pos->Lb,le_refl->JM,mod_lt->Lh,mul_comm->KT,mul_le_mul->JL,zero_le->JI
open Option renaming bind_some->Kb
open Option.some renaming inj->JJ,injEq->L7
open Go.Proofs.Tryz renaming func204->Qd,ntmps204->Qe,prog->JG
variable {C R c i j k p r:Nat} {a t:Int} {b:Int×Int} {f:Nat->Int} {m:List Int} {seen:Nat->Nat->Prop}
def tab (R C:Nat) (f:Nat->Nat->Int):List Int:=(JN (R*C)).map fun k=>f (k/C) (k%C)
theorem Zc8 (R C:Nat) (f:Nat->Nat->Int):(tab R C f).length=R*C:=by simp[tab]
theorem Zcq {f:Nat->Nat->Int} (hi:i<R) (hj:j<C):cell (tab R C f) C i j=f i j:=by
 have h:=Zf hj hi;unfold cell tab;rw[List.getD_eq_getElem?_getD,List.getElem?_map,List.getElem?_range h];simp only[Option.map_some,Option.getD_some];rw[show i*C+j=j+C*i by rw[KT];omega,Nat.add_mul_div_left _ _ I,Nat.add_mul_mod_self_left,Nat.div_eq_of_lt hj,Nat.mod_eq_of_lt hj,Nat.zero_add]
theorem Zbj {L M:List Int} (hl:L.length=R*C) (hm:M.length=R*C) (h: ∀ i j,i<R->j<C->cell L C i j=cell M C i j):L=M:=by
 refine List.ext_getElem I fun k a b=> ?_;have c:0<C:=by
  rcases Lb C with e|e
  ·subst e;simp at hl;subst hl;simp at a
  ·exact e
 have d:k<R*C:=I
 have f:k/C<R:=Mv (by rw[KT];exact d);have:=h (k/C) (k%C) f (Lh _ c);unfold cell at this;rw[show k/C*C+k%C=k by rw[KT];exact N0 k C] at this;simpa [KJ,JR a,JR b] using this
theorem ZlA {f:Nat->Nat->Int} (h: ∀ i j,i<R->j<C-> -400000000<=f i j/\f i j<=400000000):NumL (tab R C f):=fun x b=>by
 obtain ⟨k,a,rfl⟩:=List.mem_map.1 b;have a:=JW.1 a;have c:0<C:=by
  rcases Lb C with e|e
  ·subst e;simp at a
  ·exact e
 exact h _ _ (Mv (by rw[KT];exact a)) (Lh _ c)
def trL (m:List Int) (R C:Nat):List Int:=tab C R fun j i=>cell m C i j
theorem Zbg (m:List Int) (R C:Nat):(trL m R C).length=C*R:=Zc8 _ _ _
theorem ZbV (hi:i<R) (hj:j<C):cell (trL m R C) R j i=cell m C i j:=Zcq hj hi
theorem Zep (h:NumL m):NumL (trL m R C):=ZlA fun _ _ _ _=>Zk h _ _ _
def Zbv (m:List Int) (C R i p:Nat) (t:Int):Bool:=(JN R).all fun r=>Zi (cell m C r p*t)&&Zi (cell m C r i+cell m C r p*t)
def Zd4 (m:List Int) (C R i p:Nat) (t:Int):List Int:=tab R C fun r c=>if c=i then cell m C r i+cell m C r p*t else cell m C r c
def Zf8 (m:List Int) (C R i p:Nat):List Int:=tab R C fun r c=>if c=i then cell m C r p else if c=p then cell m C r i else cell m C r c
theorem ZiC (m:List Int) (C R i p:Nat) (t:Int):(Zd4 m C R i p t).length=R*C:=Zc8 _ _ _
theorem ZjY (m:List Int) (C R i p:Nat):(Zf8 m C R i p).length=R*C:=Zc8 _ _ _
theorem ZfE (hr:r<R) (hc:c<C):cell (Zd4 m C R i p t) C r c=if c=i then cell m C r i+cell m C r p*t else cell m C r c:=Zcq hr hc
theorem ZtX (hr:r<R) (hc:c<C):cell (Zf8 m C R i p) C r c=if c=i then cell m C r p else if c=p then cell m C r i else cell m C r c:=Zcq hr hc
theorem ZeE:Zbv m C R i p t=true↔ ∀ r,r<R->Zi (cell m C r p*t)=true/\Zi (cell m C r i+cell m C r p*t)=true:=by
 unfold Zbv;exact Ic
theorem ZlW (h:NumL m) (hok:Zbv m C R i p t=true):NumL (Zd4 m C R i p t):=ZlA fun r c a _=>by
 split
 ·exact ZB.1 (ZeE.1 hok r a).2
 ·exact Zk h _ _ _
theorem Znt (h:NumL m):NumL (Zf8 m C R i p):=ZlA fun r c _ _=>by
 split
 ·exact Zk h _ _ _
 ·split<;>exact Zk h _ _ _
theorem Zh0 (hi:i<C) (hp:p<C):Zae (trL m R C) R i p t=Zbv m C R i p t:=by
 rw[Bool.eq_iff_iff,ZcP,ZeE];constructor
 ·intro h k a;have:=h k a;unfold ZbD at this
  rwa [ZbV a hp,ZbV a hi] at this
 ·intro h k a;unfold ZbD;rw[ZbV a hp,ZbV a hi];exact h k a
theorem Zjf (hi:i<C) (hp:p<C):trL (addR (trL m R C) R i p t) C R=Zd4 m C R i p t:=
 Zbj (Zc8 _ _ _) (Zc8 _ _ _) fun r c a b=>by
  rw[ZbV b a,Zbt (Zbg _ _ _) hi a,Zd4,Zcq a b];split
  ·rw[ZbV a hi,ZbV a hp]
  ·rw[ZbV a b]
theorem Zld (hi:i<C) (hp:p<C) (hip:i≠p):trL (swR (trL m R C) R i p) C R=Zf8 m C R i p:=
 Zbj (Zc8 _ _ _) (Zc8 _ _ _) fun r c a b=>by
  rw[ZbV b a,Zej (Zbg _ _ _) hi hp hip a,Zf8,Zcq a b];split
  ·rw[ZbV a hp]
  ·split
   ·rw[ZbV a hi]
   ·rw[ZbV a b]
abbrev SS:=List Int×List Int×List Int
variable {s s':SS}
structure Ss (C R:Nat) (s:SS):Prop where
 la:s.1.length=R*C
 lu:s.2.1.length=R*R
 lv:s.2.2.length=C*C
 na:NumL s.1
 nu:NumL s.2.1
 nv:NumL s.2.2
def ZaP (C R i p:Nat) (t:Int) (s:SS):Option SS:=if Zae s.1 C i p t&&Zae s.2.1 R i p t then some (addR s.1 C i p t,addR s.2.1 R i p t,s.2.2) else none
def ZbZ (C R p t:Nat) (s:SS):SS:=(swR s.1 C p t,swR s.2.1 R p t,s.2.2)
def Zgy (C R t:Nat) (s:SS):SS:=(ZdT s.1 C t,ZdT s.2.1 R t,s.2.2)
def Zbn (C R i p:Nat) (t:Int) (s:SS):Option SS:=if Zbv s.1 C R i p t&&Zbv s.2.2 C C i p t then some (Zd4 s.1 C R i p t,s.2.1,Zd4 s.2.2 C C i p t) else none
def Zgr (C R i p:Nat) (s:SS):SS:=(Zf8 s.1 C R i p,s.2.1,Zf8 s.2.2 C C i p)
theorem Zdv (h:Ss C R s) (he:ZaP C R i p t s=some s'):Ss C R s'/\s'=(addR s.1 C i p t,addR s.2.1 R i p t,s.2.2):=by
 unfold ZaP at he;split at he
 ·rename_i a;rw[JQ] at a;obtain rfl:=JJ he;exact ⟨⟨by simp[addR,ZM,h.la],by simp[addR,ZM,h.lu],h.lv,ZdF h.na a.1,ZdF h.nu a.2,h.nv⟩,rfl⟩
 ·cases he
theorem Ze8 {t:Nat} (h:Ss C R s):Ss C R (ZbZ C R p t s):=⟨by simp[ZbZ,swR,ZbA,h.la],by simp[ZbZ,swR,ZbA,h.lu],h.lv,Zda h.na _,Zda h.nu _,h.nv⟩
theorem Zj4 {t:Nat} (h:Ss C R s):Ss C R (Zgy C R t s):=⟨by simp[Zgy,ZdT,ZM,h.la],by simp[Zgy,ZdT,ZM,h.lu],h.lv,Zh6 h.na,Zh6 h.nu,h.nv⟩
theorem Zgi (h:Ss C R s) (he:Zbn C R i p t s=some s'):Ss C R s'/\s'=(Zd4 s.1 C R i p t,s.2.1,Zd4 s.2.2 C C i p t):=by
 unfold Zbn at he;split at he
 ·rename_i a;rw[JQ] at a;obtain rfl:=JJ he;exact ⟨⟨ZiC _ _ _ _ _ _,h.lu,ZiC _ _ _ _ _ _,ZlW h.na a.1,h.nu,ZlW h.nv a.2⟩,rfl⟩
 ·cases he
theorem Zhq (h:Ss C R s):Ss C R (Zgr C R i p s):=⟨ZjY _ _ _ _ _,h.lu,ZjY _ _ _ _ _,Znt h.na,h.nu,Znt h.nv⟩
def ZcA (m:List Int) (C:Nat) (b:Int×Int) (i j:Nat):Bool:=decide (cell m C i j≠0)&&(decide (b.1<0)||decide ((cell m C i j).natAbs<(cell m C b.1.toNat b.2.toNat).natAbs))
def lsJ (m:List Int) (C t i:Nat):Nat->Int×Int->Int×Int
 |0,b=>b
 |n+1,b=>if ZcA m C (lsJ m C t i n b) i (t+n)=true then ((i:Int),((t+n:Nat):Int)) else lsJ m C t i n b
def lsI (m:List Int) (C t:Nat):Nat->Int×Int
 |0=>(-1, -1)
 |n+1=>lsJ m C t (t+n) (C-t) (lsI m C t n)
def Z4 (m:List Int) (C R t:Nat):Int×Int:=lsI m C t (R-t)
def LsOk (m:List Int) (C R t:Nat) (seen:Nat->Nat->Prop) (b:Int×Int):Prop:=
 (b=(-1, -1)/\ ∀ i j,seen i j->cell m C i j=0)\/ ∃ r c:Nat,b=((r:Int),(c:Int))/\t<=r/\r<R/\t<=c/\c<C/\cell m C r c≠0/\(∀ i j,seen i j->cell m C i j≠0->(cell m C r c).natAbs<=(cell m C i j).natAbs)/\
  (seen t t->cell m C t t≠0->(cell m C t t).natAbs<=(cell m C r c).natAbs->r=t/\c=t)
theorem LsOk.step {t:Nat} (h:LsOk m C R t seen b) (hi:t<=i/\i<R) (hj:t<=j/\j<C) (hf:(i=t/\j=t)->b=(-1, -1)) (hs:(i,j)≠(t,t)->(seen t t)):
  LsOk m C R t (fun i' j'=>seen i' j'\/(i'=i/\j'=j)) (if ZcA m C b i j=true then ((i:Int),(j:Int)) else b):=by
 by_cases l:cell m C i j=0
 ·have s:ZcA m C b i j=false:=by unfold ZcA;rw[decide_eq_false (by simp[l])];rfl
  rw[s];simp only[LB,if_false];rcases h with ⟨f,n⟩|⟨r,c,f,n,v,w,x,y,o,z⟩
  ·exact .inl ⟨f,fun i' j' h=>h.elim (n i' j') (fun e=>by rw[e.1,e.2];exact l)⟩
  ·refine .inr ⟨r,c,f,n,v,w,x,y,fun i' j' h a=>h.elim (fun h=>o i' j' h a) (fun e=>by rw[e.1,e.2] at a;exact (a l).elim),fun h a d=> ?_⟩;rcases h with h|⟨g,k⟩
   ·exact z h a d
   ·subst g;subst k;exact (a l).elim
 ·rcases h with ⟨f,n⟩|⟨r,c,f,n,v,w,x,y,o,z⟩
  ·have s:ZcA m C b i j=true:=(by unfold ZcA;rw[f,decide_eq_true l];rfl);rw[s,if_pos rfl];refine .inr ⟨i,j,rfl,hi.1,hi.2,hj.1,hj.2,l,fun i' j' h a=> ?_,fun h a d=> ?_⟩
   ·rcases h with h|⟨g,k⟩
    ·exact (a (n i' j' h)).elim
    ·rw[g,k];exact JE
   ·rcases h with h|⟨g,k⟩
    ·exact (a (n t t h)).elim
    ·exact ⟨g.symm,k.symm⟩
  ·have A: ¬ (i=t/\j=t):=fun e=>(by have:=hf e;rw[f] at this;have:=congrArg Prod.fst this;simp at this);have p:seen t t:=hs (fun e=>A ⟨congrArg Prod.fst e,congrArg Prod.snd e⟩);have B:ZcA m C b i j=decide ((cell m C i j).natAbs<(cell m C r c).natAbs):=(by unfold ZcA;rw[f,decide_eq_true l,decide_eq_false Θ];simp);rw[B];by_cases q:(cell m C i j).natAbs<(cell m C r c).natAbs
   ·rw[decide_eq_true q,if_pos rfl];refine .inr ⟨i,j,rfl,hi.1,hi.2,hj.1,hj.2,l,fun i' j' h a=> ?_,fun h a d=> ?_⟩
    ·rcases h with h|⟨g,k⟩
     ·have:=o i' j' h a;omega
     ·rw[g,k];exact JE
    ·have:=o t t p a;omega
   ·rw[decide_eq_false q];simp only[LB,if_false];refine .inr ⟨r,c,f,n,v,w,x,y,fun i' j' h a=> ?_,fun h a d=>z p a d⟩;rcases h with h|⟨g,k⟩
    ·exact o i' j' h a
    ·rw[g,k];omega
theorem LsOk.congr {t:Nat} {seen':Nat->Nat->Prop} (h:LsOk m C R t seen b) (he: ∀ i j,seen i j↔seen' i j):LsOk m C R t seen' b:=by
 have:seen=seen':=funext fun i=>funext fun j=>propext (he i j);rw[←this];exact h
def Zgw (C t i j:Nat) (i' j':Nat):Prop:=t<=i'/\t<=j'/\((i'<i/\j'<C)\/(i'=i/\j'<j))
theorem ZsB {m:List Int} {C R t i:Nat} {b:Int×Int} (hi:t<=i/\i<R) (h0:i=t->b=(-1, -1)) (h:LsOk m C R t (Zgw C t i t) b) (hC:i≠t->t<C): ∀ n,t+n<=C->LsOk m C R t (Zgw C t i (t+n)) (lsJ m C t i n b)
 |0,_=>by simpa [lsJ] using h
 |n+1,hn=>by
  have ih:=ZsB hi h0 h hC n I;simp only[lsJ];refine (LsOk.step (i:=i) (j:=t+n) ih hi ⟨I,I⟩ (fun e=> ?_) (fun e=> ?_)).congr (fun i' j'=> ?_)
  ·obtain ⟨e1,e2⟩:=e;have hn0:n=0:=I;subst hn0;simp only[lsJ];exact h0 e1
  ·refine ⟨JM _,JM _, ?_⟩;by_cases e1:i=t
   ·refine .inr ⟨e1.symm, ?_⟩;rcases Lb n with e2|e2
    ·exact (e (by rw[e1,e2];rfl)).elim
    ·omega
   ·exact .inl ⟨I,hC e1⟩
  ·unfold Zgw;constructor
   ·rintro (⟨h1,h2,h3⟩|⟨e1,e2⟩)
    ·exact ⟨h1,h2,I⟩
    ·exact ⟨I,I, .inr ⟨e1,I⟩⟩
   ·rintro ⟨h1,h2,h3⟩;by_cases e:i'=i/\j'=t+n
    ·exact .inr e
    ·refine .inl ⟨h1,h2, ?_⟩;rcases h3 with h3|⟨e1,h3⟩
     ·exact .inl h3
     ·exact .inr ⟨e1,by
       have:j'≠t+n:=fun e2=>e ⟨e1,e2⟩;omega⟩
theorem ZrJ {m:List Int} {C R t:Nat} (htC:t<=C): ∀ n,t+n<=R->LsOk m C R t (Zgw C t (t+n) t) (lsI m C t n)/\(n=0->lsI m C t n=(-1, -1))
 |0,_=>⟨.inl ⟨rfl,fun i j h=>by unfold Zgw at h;omega⟩,fun _=>rfl⟩
 |n+1,hn=>by
  obtain ⟨ih,ih0⟩:=ZrJ (m:=m) (R:=R) htC n I;refine ⟨?_,fun h=>I⟩;simp only[lsI];by_cases hC:t<C
  ·have:=ZsB (m:=m) (C:=C) (R:=R) (t:=t) (i:=t+n) ⟨I,I⟩ (fun e=>ih0 I) ih (fun _=>hC) (C-t) I;refine this.congr fun i' j'=> ?_;exact IW
  ·have e:C-t=0:=I;rw[e];simp only[lsJ];refine ih.congr fun i' j'=> ?_;exact IW
theorem ZiI (m:List Int) {t:Nat} (hR:t<=R) (hC:t<=C):LsOk m C R t (fun i j=>t<=i/\i<R/\t<=j/\j<C) (Z4 m C R t):=by
 refine (ZrJ (m:=m) (R:=R) hC (R-t) I).1.congr fun i j=> ?_;unfold Zgw;constructor
 ·rintro ⟨a,c,b⟩;omega
 ·rintro ⟨a,c,b,d⟩;exact ⟨a,b,I⟩
def Zfi (C R t:Nat):Nat->Nat->SS->Option SS
 |0,_,s=>some s
 |n+1,i,s=>if cell s.1 C i t≠0 then (ZaP C R i t (-(cell s.1 C i t/cell s.1 C t t)) s).bind (Zfi C R t n (i+1)) else Zfi C R t n (i+1) s
def Zfk (C R t:Nat):Nat->Nat->SS->Option SS
 |0,_,s=>some s
 |n+1,j,s=>if cell s.1 C t j≠0 then (Zbn C R j t (-(cell s.1 C t j/cell s.1 C t t)) s).bind (Zfk C R t n (j+1)) else Zfk C R t n (j+1) s
theorem ZnN (x p:Int):x+p*(-(x/p))=x%p:=by
 have:=Int.emod_def x p;rw[Int.mul_neg];omega
theorem Zhs {C R t:Nat} (ht:t<R) (htC:t<C): ∀ {n i:Nat} {s s':SS},Ss C R s->t<i->i+n<=R->cell s.1 C t t≠0->Zfi C R t n i s=some s'->
  Ss C R s'/\(∀ k,k<C->cell s'.1 C t k=cell s.1 C t k)/\(∀ i',i<=i'->i'<i+n->0<=cell s'.1 C i' t/\(cell s'.1 C i' t).natAbs<(cell s.1 C t t).natAbs)/\(∀ i' k,k<C->i'<i\/i+n<=i'->cell s'.1 C i' k=cell s.1 C i' k)
 |0,i,s,s',h,_,_,_,he=>by obtain rfl:=JJ he;exact ⟨h,fun _ _=>rfl,fun _ _ _=>I,fun _ _ _ _=>rfl⟩
 |n+1,i,s,s',h,hi,hn,hne,he=>by
  simp only[Zfi] at he;by_cases hc:cell s.1 C i t=0
  ·rw[if_neg (by simp[hc])] at he;obtain ⟨g1,g2,g3,g4⟩:=Zhs ht htC h I I hne he;refine ⟨g1,g2,fun i' h2 h3=> ?_,fun i' k hk h2=>g4 i' k hk I⟩;by_cases e:i'=i
   ·subst e;rw[g4 i' t htC (.inl I),hc];have:(cell s.1 C t t).natAbs≠0:=I;exact ⟨I,Ψ⟩
   ·exact g3 i' I I
  ·rw[if_pos hc] at he;cases ha:ZaP C R i t (-(cell s.1 C i t/cell s.1 C t t)) s with
   |none=>rw[ha] at he;cases he
   |some s1=>
    rw[ha] at he;obtain ⟨h1,e1⟩:=Zdv h ha;have hcell: ∀ i' k,k<C->cell s1.1 C i' k=if i'=i then cell s.1 C i k+cell s.1 C t k*(-(cell s.1 C i t/cell s.1 C t t)) else cell s.1 C i' k:=fun i' k hk=>DC;have htk: ∀ k,k<C->cell s1.1 C t k=cell s.1 C t k:=fun k hk=>(by rw[hcell t k hk,if_neg I]);obtain ⟨g1,g2,g3,g4⟩:=Zhs ht htC h1 I I (by rw[htk t htC];exact hne) (show Zfi C R t n (i+1) s1=some s' from he);refine ⟨g1,fun k hk=>by rw[g2 k hk,htk k hk],fun i' h2 h3=> ?_,fun i' k hk h2=> ?_⟩
    ·by_cases e:i'=i
     ·subst e;rw[g4 i' t htC (.inl I),hcell i' t htC,if_pos rfl,ZnN];have h5:=Int.emod_nonneg (cell s.1 C i' t) hne;have h6:=Int.emod_lt (cell s.1 C i' t) hne;omega
     ·have:=g3 i' I I;rw[htk t htC] at this;exact this
    ·rw[g4 i' k hk I,hcell i' k hk,if_neg I]
theorem ZhZ {C R t:Nat} (ht:t<R) (htC:t<C): ∀ {n j:Nat} {s s':SS},Ss C R s->t<j->j+n<=C->cell s.1 C t t≠0->Zfk C R t n j s=some s'->
  Ss C R s'/\(∀ r,r<R->cell s'.1 C r t=cell s.1 C r t)/\(∀ j',j<=j'->j'<j+n->cell s'.1 C t j'=cell s.1 C t j'%cell s.1 C t t)/\(∀ r k,r<R->k<C->k<j\/j+n<=k->cell s'.1 C r k=cell s.1 C r k)
 |0,j,s,s',h,_,_,_,he=>by obtain rfl:=JJ he;exact ⟨h,fun _ _=>rfl,fun _ _ _=>I,fun _ _ _ _ _=>rfl⟩
 |n+1,j,s,s',h,hj,hn,hne,he=>by
  simp only[Zfk] at he;by_cases hc:cell s.1 C t j=0
  ·rw[if_neg (by simp[hc])] at he;obtain ⟨g1,g2,g3,g4⟩:=ZhZ ht htC h I I hne he;refine ⟨g1,g2,fun j' h2 h3=> ?_,fun r k hr hk h2=>g4 r k hr hk I⟩;by_cases e:j'=j
   ·subst e;rw[g4 t j' ht I (.inl I),hc];simp
   ·exact g3 j' I I
  ·rw[if_pos hc] at he;cases ha:Zbn C R j t (-(cell s.1 C t j/cell s.1 C t t)) s with
   |none=>rw[ha] at he;cases he
   |some s1=>
    rw[ha] at he;obtain ⟨h1,e1⟩:=Zgi h ha;have hcell: ∀ r k,r<R->k<C->cell s1.1 C r k=if k=j then cell s.1 C r j+cell s.1 C r t*(-(cell s.1 C t j/cell s.1 C t t)) else cell s.1 C r k:=fun r k hr hk=>(by rw[e1];exact ZfE hr hk);have htk: ∀ r,r<R->cell s1.1 C r t=cell s.1 C r t:=fun r hr=>(by rw[hcell r t hr htC,if_neg I]);obtain ⟨g1,g2,g3,g4⟩:=ZhZ ht htC h1 I I (by rw[htk t ht];exact hne) (show Zfk C R t n (j+1) s1=some s' from he);refine ⟨g1,fun r hr=>by rw[g2 r hr,htk r hr],fun j' h2 h3=> ?_,fun r k hr hk h2=> ?_⟩
    ·by_cases e:j'=j
     ·subst e;rw[g4 t j' ht I (.inl I),hcell t j' ht I,if_pos rfl,ZnN]
     ·rw[g3 j' I I,htk t ht,hcell t j' ht I,if_neg e]
    ·rw[g4 r k hr hk I,hcell r k hr hk,if_neg I]
def ZN (m:List Int) (C R t:Nat):Bool:=(JN (R-(t+1))).all fun d=>cell m C (t+1+d) t==0
def Zao (m:List Int) (C t:Nat):Bool:=(JN (C-(t+1))).all fun d=>cell m C t (t+1+d)==0
def Zg6 (m:List Int) (C t i:Nat):Bool:=(JN (C-(t+1))).any fun d=>(cell m C i (t+1+d)).tmod (cell m C t t)!=0
def ZdW (m:List Int) (C R t:Nat):Option Nat:=(JN (R-(t+1))).find? fun d=>Zg6 m C t (t+1+d)
theorem Zi2 {t:Nat}:ZN m C R t=true↔ ∀ i,t<i->i<R->cell m C i t=0:=by
 unfold ZN;exact Ho
theorem Zi6 {t:Nat}:Zao m C t=true↔ ∀ j,t<j->j<C->cell m C t j=0:=by
 unfold Zao;exact Ho
theorem Zh2 {t:Nat}:Zg6 m C t i=true↔ ∃ j,t<j/\j<C/\(cell m C i j).tmod (cell m C t t)≠0:=by
 unfold Zg6;rw[Mo];constructor
 ·rintro ⟨d,a,h⟩;have:=JW.1 a;exact ⟨t+1+d,I,I,Ai⟩
 ·rintro ⟨j,c,e,b⟩;refine ⟨j-(t+1),JW.2 I, ?_⟩;rw[show t+1+(j-(t+1))=j by omega];simpa using b
def ZgZ (C R t:Nat) (s:SS):Option (SS×Bool):=
 (Zfi C R t (R-(t+1)) (t+1) s).bind fun s1=>(Zfk C R t (C-(t+1)) (t+1) s1).bind fun s2=>
  if (ZN s2.1 C R t&&Zao s2.1 C t)=true then (match ZdW s2.1 C R t with
   |some d=>(ZaP C R t (t+1+d) 1 s2).map fun x=>(x,false)
   |none=>some (s2,true)) else some (s2,false)
def ZbR (C R t r c:Nat) (s:SS):SS:=if c=t then (if r=t then s else ZbZ C R r t s) else Zgr C R c t (if r=t then s else ZbZ C R r t s)
def lsR (m:List Int) (C R t:Nat):Nat:=(Z4 m C R t).1.toNat
def lsC (m:List Int) (C R t:Nat):Nat:=(Z4 m C R t).2.toNat
def rnd (C R t:Nat) (s:SS):Option (SS×Bool):=ZgZ C R t (ZbR C R t (lsR s.1 C R t) (lsC s.1 C R t) s)
def lsA (m:List Int) (C R t:Nat):Nat:=(cell m C (lsR m C R t) (lsC m C R t)).natAbs
def Zi1 (m:List Int) (C R t:Nat):Bool:=(decide (cell m C t t≠0)&&decide ((cell m C t t).natAbs=lsA m C R t))&&(JN (C-(t+1))).any fun d=>cell m C t (t+1+d)%cell m C t t !=0
def mu3 (m:List Int) (C R t:Nat):Nat:=2*lsA m C R t+(if Zi1 m C R t=true then 0 else 1)
theorem ZoK {t:Nat} (hi:t<=i/\i<R) (hj:t<=j/\j<C) (hne:cell m C i j≠0):0<=(Z4 m C R t).1/\lsA m C R t<=(cell m C i j).natAbs:=by
 rcases ZiI m (C:=C) (R:=R) (t:=t) I I with ⟨_,a⟩|⟨r,c,b,_,_,_,_,_,d,_⟩
 ·exact (hne (a i j ⟨hi.1,hi.2,hj.1,hj.2⟩)).elim
 ·unfold lsA lsR lsC;rw[b];exact ⟨Θ,by simpa using d i j ⟨hi.1,hi.2,hj.1,hj.2⟩ hne⟩
theorem ZnF {t:Nat} (h:Ss C R s):Ss C R (ZbR C R t r c s):=by
 unfold ZbR;split
 ·split
  ·exact h
  ·exact Ze8 h
 ·split
  ·exact Zhq h
  ·exact Zhq (Ze8 h)
theorem ZhN {t:Nat} (h:Ss C R s) (hr:r<R) (hc:c<C) (ht:t<R) (htC:t<C):cell (ZbR C R t r c s).1 C t t=cell s.1 C r c:=by
 have b: ∀ k,k<C->cell (if r=t then s else ZbZ C R r t s).1 C t k=cell s.1 C r k:=fun k d=>by
  by_cases e:r=t
  ·rw[if_pos e,e]
  ·rw[if_neg e,ZbZ,Zej h.la hr ht e d,if_neg (fun a=>e a.symm),if_pos rfl]
 unfold ZbR;by_cases e:c=t
 ·rw[if_pos e,b t htC,e]
 ·rw[if_neg e,Zgr,Zf8,Zcq ht htC,if_neg (fun a=>e a.symm),if_pos rfl,b c hc]
theorem Zgf {t:Nat} (ht:t<R) (htC:t<C) {b:Bool} (h:Ss C R s) (hp:0<=(Z4 s.1 C R t).1) (he:rnd C R t s=some (s',b)):
  Ss C R s'/\(b=false->0<=(Z4 s'.1 C R t).1/\mu3 s'.1 C R t<mu3 s.1 C R t):=by
 obtain ⟨r,c,h1,al,W,am,X,f,ak,v⟩: ∃ r c:Nat,Z4 s.1 C R t=((r:Int),(c:Int))/\t<=r/\r<R/\t<=c/\c<C/\cell s.1 C r c≠0/\(∀ i j,(t<=i/\i<R/\t<=j/\j<C)->cell s.1 C i j≠0->(cell s.1 C r c).natAbs<=(cell s.1 C i j).natAbs)/\
   ((t<=t/\t<R/\t<=t/\t<C)->cell s.1 C t t≠0->(cell s.1 C t t).natAbs<=(cell s.1 C r c).natAbs->r=t/\c=t):=by
  rcases ZiI s.1 (C:=C) (R:=R) (t:=t) I I with ⟨H,_⟩|H
  ·rw[H] at hp;simp at hp
  ·exact H
 have J:lsR s.1 C R t=r:=by unfold lsR;rw[h1];simp
 have L:lsC s.1 C R t=c:=by unfold lsC;rw[h1];simp
 have z:lsA s.1 C R t=(cell s.1 C r c).natAbs:=by unfold lsA;rw[J,L]
 unfold rnd at he;rw[J,L] at he;have H:=ZnF (t:=t) (r:=r) (c:=c) h;have A:=ZhN h W X ht htC;have Y:r=t->c=t->ZbR C R t r c s=s:=fun Z e2=>by unfold ZbR;rw[if_pos e2,if_pos Z]
 generalize an:ZbR C R t r c s=s0 at *;unfold ZgZ at he;cases hA:Zfi C R t (R-(t+1)) (t+1) s0 with
 |none=>rw[hA] at he;cases he
 |some T=>
  rw[hA] at he;simp only[Kb] at he;obtain ⟨a1,a2,a3,a4⟩:=Zhs ht htC H I I (by rw[A];exact f) hA;cases hB:Zfk C R t (C-(t+1)) (t+1) T with
  |none=>rw[hB] at he;cases he
  |some e=>
   rw[hB] at he;simp only[Kb] at he;have B:cell T.1 C t t=cell s.1 C r c:=(by rw[a2 t htC,A]);obtain ⟨V,b2,b3,b4⟩:=ZhZ ht htC a1 I I (by rw[B];exact f) hB;have M:cell e.1 C t t=cell s.1 C r c:=(by rw[b2 t ht,B]);have ao:(cell s.1 C r c).natAbs≠0:=I;have g: ∀ i j,(t<=i/\i<R)->(t<=j/\j<C)->cell e.1 C i j≠0->(cell e.1 C i j).natAbs<(cell s.1 C r c).natAbs->0<=(Z4 e.1 C R t).1/\mu3 e.1 C R t<mu3 s.1 C R t:=fun i j hi hj hn ap=>(by obtain ⟨D,F⟩:=ZoK hi hj hn;refine ⟨D, ?_⟩;unfold mu3;rw[z];split<;>split<;>omega);have l:(ZN e.1 C R t&&Zao e.1 C t)=false->0<=(Z4 e.1 C R t).1/\mu3 e.1 C R t<mu3 s.1 C R t:=fun a=>by
    rw[Bool.and_eq_false_iff] at a;rcases a with a|a
    ·obtain ⟨i,aq,N,aa⟩: ∃ i,t<i/\i<R/\cell e.1 C i t≠0:=by
      rcases Mg (∃ i,t<i/\i<R/\cell e.1 C i t≠0) with w|w
      ·exact w
      ·have:ZN e.1 C R t=true:=Zi2.2 fun i D F=>LV fun q3=>w ⟨i,D,F,q3⟩;rw[this] at a;cases a
     have h5:=(a3 i I I).2;rw[A] at h5;exact g i t ⟨I,N⟩ ⟨JM _,htC⟩ aa (by rw[b2 i N];exact h5)
    ·obtain ⟨j,O,x,y⟩: ∃ j,t<j/\j<C/\cell e.1 C t j≠0:=by
      rcases Mg (∃ j,t<j/\j<C/\cell e.1 C t j≠0) with w|w
      ·exact w
      ·have:Zao e.1 C t=true:=Zi6.2 fun i D F=>LV fun q3=>w ⟨i,D,F,q3⟩;rw[this] at a;cases a
     refine g t j ⟨JM _,ht⟩ ⟨I,x⟩ y ?_;rw[b3 j I I,B];have h5:=Int.emod_nonneg (cell T.1 C t j) f;have h6:=Int.emod_lt (cell T.1 C t j) f;omega
   cases a:(ZN e.1 C R t&&Zao e.1 C t) with
   |false=>rw[a] at he;simp only[LB,if_false,L7,Prod.mk.injEq] at he;obtain ⟨rfl,rfl⟩:=he;exact ⟨V,fun _=>l a⟩
   |true=>
    rw[a] at he;simp only[if_true] at he;have n:=a;rw[JQ] at n;have ab:=Zi2.1 n.1;have P:=Zi6.1 n.2;have ad:Zi1 s.1 C R t=false:=(by rw[Bool.eq_false_iff];intro hd;unfold Zi1 at hd;simp only[JQ,decide_eq_true_eq,Mo] at hd;obtain ⟨⟨ae,af⟩,d,E,ag⟩:=hd;have E:=JW.1 E;obtain ⟨Z,e2⟩:=v ⟨JM _,ht,JM _,htC⟩ ae (by rw[af,z];exact JM _);have e3:=Y Z e2;have hz:=P (t+1+d) I I;rw[b3 (t+1+d) I I,a2 _ I,a2 t htC,e3] at hz;simp[hz] at ag);cases o:ZdW e.1 C R t with
    |none=>rw[o] at he;simp only[L7,Prod.mk.injEq] at he;obtain ⟨rfl,rfl⟩:=he;exact ⟨V,fun h=>Ω⟩
    |some d=>
     rw[o] at he;simp only[Option.map_eq_some_iff,Prod.mk.injEq] at he;obtain ⟨G,ah,rfl,rfl⟩:=he;obtain ⟨c1,e3⟩:=Zdv V ah;refine ⟨c1,fun _=> ?_⟩;unfold ZdW at o;have E:=JW.1 (List.mem_of_find?_eq_some o);have S:=List.find?_some o;obtain ⟨j,O,x,y⟩:=Zh2.1 S;have p: ∀ k,k<C->cell G.1 C t k=cell e.1 C t k+cell e.1 C (t+1+d) k*1:=fun k hk=>(by rw[e3];simp only;rw[Zbt V.la ht hk,if_pos rfl]);have q:cell G.1 C t t=cell s.1 C r c:=(by rw[p t htC,ab (t+1+d) I I,M];simp);have ai:cell G.1 C t j=cell e.1 C (t+1+d) j:=(by rw[p j x,P j O x];simp);obtain ⟨D,F⟩:=ZoK (m:=G.1) (R:=R) ⟨JM t,ht⟩ ⟨JM t,htC⟩ (by rw[q];exact f);refine ⟨D, ?_⟩;rw[q] at F;unfold mu3;rw[ad,z];by_cases hq:lsA G.1 C R t=(cell s.1 C r c).natAbs
     ·have aj:Zi1 G.1 C R t=true:=(by unfold Zi1;simp only[JQ,decide_eq_true_eq,Mo];refine ⟨⟨by rw[q];exact f,by rw[q,hq]⟩,j-(t+1),JW.2 I, ?_⟩;rw[show t+1+(j-(t+1))=j by omega,ai,q];rw[M] at y;simp only[bne_iff_ne,ne_eq];intro w;exact y (Int.tmod_eq_zero_of_dvd (Int.dvd_of_emod_eq_zero w)));rw[aj,hq];simp
     ·simp only[LB,if_false];split<;>omega
def Zd6 (C R t:Nat):Nat->SS->Option SS
 |0,_=>none
 |n+1,s=>(rnd C R t s).bind fun x=>if x.2=true then some x.1 else Zd6 C R t n x.1
theorem Zky {C R t:Nat} (ht:t<R) (htC:t<C): ∀ {n m:Nat} {s:SS},Ss C R s->0<=(Z4 s.1 C R t).1->mu3 s.1 C R t<n->mu3 s.1 C R t<m->Zd6 C R t n s=Zd6 C R t m s
 |0,_,_,_,_,h,_=>I
 |_,0,_,_,_,_,h=>I
 |n+1,m+1,s,hs,hp,hn,hm=>by
  simp only[Zd6];cases hr:rnd C R t s with
  |none=>rfl
  |some x=>
   obtain ⟨s',b⟩:=x;obtain ⟨g1,g2⟩:=Zgf ht htC hs hp hr;cases b with
   |true=>rfl
   |false=>obtain ⟨g3,g4⟩:=g2 rfl;simp only[Kb,LB,if_false];exact Zky ht htC g1 g3 I I
def sA (C R t:Nat) (s:SS):Option SS:=Zd6 C R t (mu3 s.1 C R t+1) s
theorem ZpD {t:Nat} (h:rnd C R t s=none):sA C R t s=none:=by
 unfold sA;simp only[Zd6,h];rfl
theorem ZpQ {t:Nat} (h:rnd C R t s=some (s',true)):sA C R t s=some s':=by
 unfold sA;simp only[Zd6,h];rfl
theorem Zpl {t:Nat} (ht:t<R) (htC:t<C) (hs:Ss C R s) (hp:0<=(Z4 s.1 C R t).1) (h:rnd C R t s=some (s',false)):sA C R t s=sA C R t s':=by
 obtain ⟨a,b⟩:=Zgf ht htC hs hp h;obtain ⟨c,d⟩:=b rfl;unfold sA;rw[show Zd6 C R t (mu3 s.1 C R t+1) s=Zd6 C R t (mu3 s.1 C R t) s' by simp only[Zd6,h];rfl];exact Zky ht htC a c d I
def Zec (C R t:Nat) (s:SS):SS:=if cell s.1 C t t<0 then Zgy C R t s else s
def ZcQ (C R:Nat):Nat->Nat->SS->Option SS
 |0,_,s=>some s
 |n+1,t,s=>if (Z4 s.1 C R t).1<0 then some s else (sA C R t s).bind fun s'=>ZcQ C R n (t+1) (Zec C R t s')
def Zcz (m:List Int) (R C:Nat):Option SS:=ZcQ C R (min R C) 0 (m,idL R,idL C)
theorem Zu4 {t:Nat} (h:Ss C R s):Ss C R (Zec C R t s):=by
 unfold Zec;split
 ·exact Zj4 h
 ·exact h
theorem Zng {C R t:Nat} (ht:t<R) (htC:t<C): ∀ {n:Nat} {s s':SS},Ss C R s->0<=(Z4 s.1 C R t).1->Zd6 C R t n s=some s'->Ss C R s'
 |0,_,_,_,_,h=>Ω
 |n+1,s,s',hs,hp,h=>by
  simp only[Zd6] at h;cases hr:rnd C R t s with
  |none=>rw[hr] at h;cases h
  |some x=>
   obtain ⟨s1,b⟩:=x;obtain ⟨g1,g2⟩:=Zgf ht htC hs hp hr;rw[hr] at h;cases b with
   |true=>obtain rfl:=JJ h;exact g1
   |false=>exact Zng ht htC g1 (g2 rfl).1 h
theorem ZpX {C R:Nat}: ∀ {n t:Nat} {s s':SS},Ss C R s->t+n<=R->t+n<=C->ZcQ C R n t s=some s'->Ss C R s'
 |0,_,s,s',hs,_,_,h=>by obtain rfl:=JJ h;exact hs
 |n+1,t,s,s',hs,h1,h2,h=>by
  simp only[ZcQ] at h;split at h
  ·obtain rfl:=JJ h;exact hs
  ·rename_i hp;cases ha:sA C R t s with
   |none=>rw[ha] at h;cases h
   |some s1=>rw[ha] at h;exact ZpX (Zu4 (Zng I I hs I ha)) I I (show ZcQ C R n (t+1) (Zec C R t s1)=some s' from h)
theorem Zhu (hl:m.length=R*C) (hm:NumL m) (h:Zcz m R C=some s):Ss C R s:=
 ZpX ⟨hl,Zbl R,Zbl C,hm,Zbi R,Zbi C⟩ I I h
theorem Zss {b:Int} (ha: -400000000<=a/\a<=400000000) (hb: -400000000<=b/\b<=400000000) (ht: -400000000<=t/\t<=400000000) (h1:Zi (b*t)=true) (h2:Zi (a+b*t)=true):ZbX a (ZaT b t)=a+b*t:=by
 have e:ZaT b t=b*t:=by unfold ZaT;rw[if_neg (by rintro (e|e);exact Zaz hb e;exact Zaz ht e),Zev h1]
 rw[e];unfold ZbX;rw[if_neg (by rintro (e|e);exact Zaz ha e;exact Zaz (ZB.1 h1) e)];exact Zev h2
theorem Zr2 {b:Int} (hb: -400000000<=b/\b<=400000000) (ht: -400000000<=t/\t<=400000000) (h: ¬ (Zi (b*t)=true/\Zi (a+b*t)=true)):ZbX a (ZaT b t)=ZS:=by
 cases c:Zi (b*t) with
 |false=>
  have e:ZaT b t=ZS:=by
   unfold ZaT;split
   ·rfl
   ·exact Zge c
  rw[e];unfold ZbX;rw[if_pos (.inr rfl)]
 |true=>
  have e:ZaT b t=b*t:=by unfold ZaT;rw[if_neg (by rintro (e|e);exact Zaz hb e;exact Zaz ht e),Zev c]
  rw[e];have d:Zi (a+b*t)=false:=by
   cases d:Zi (a+b*t) with
   |false=>rfl
   |true=>exact (h ⟨c,d⟩).elim
  unfold ZbX;split
  ·rfl
  ·exact Zge d
def ZeP (m:List Int) (C i p:Nat) (t:Int) (r:Nat):Int:=ZbX (cell m C r i) (ZaT (cell m C r p) t)
def ZgX (f:Nat->Int) (m:List Int) (C R i k:Nat):List Int:=tab R C fun r c=>if r<k/\c=i then f r else cell m C r c
theorem Zfb (f:Nat->Int) (m:List Int) (C R i k:Nat):(ZgX f m C R i k).length=R*C:=Zc8 _ _ _
theorem Zem (hr:r<R) (hc:c<C):cell (ZgX f m C R i k) C r c=if r<k/\c=i then f r else cell m C r c:=Zcq hr hc
theorem Zso (hl:m.length=R*C):ZgX f m C R i 0=m:=
 Zbj (Zfb _ _ _ _ _ _) hl fun r c a b=>by rw[Zem a b,if_neg I]
theorem ZhS {v:Int} (hl:m.length=R*C) (hi:i<R) (hj:j<C) (hc:c<C):cell (m.set (i*C+j) v) C r c=if r=i/\c=j then v else cell m C r c:=by
 have:=Zf hj hi;unfold cell;rw[Zes I];by_cases e:r*C+c=i*C+j
 ·obtain ⟨a,b⟩:=Zb5 hc hj e;rw[if_pos e,if_pos ⟨a,b⟩]
 ·rw[if_neg e,if_neg (fun h=>e (by rw[h.1,h.2]))]
theorem Zs8 (hi:i<C) (hk:k<R):(ZgX f m C R i k).set (k*C+i) (f k)=ZgX f m C R i (k+1):=
 Zbj (by rw[KZ,Zfb]) (Zfb _ _ _ _ _ _) fun r c d b=>by
  rw[ZhS (Zfb _ _ _ _ _ _) hk hi b,Zem d b,Zem d b];by_cases e:r=k/\c=i
  ·obtain ⟨rfl,rfl⟩:=e;rw[if_pos ⟨rfl,rfl⟩,if_pos ⟨I,rfl⟩]
  ·rw[if_neg e];by_cases a:r<k/\c=i
   ·rw[if_pos a,if_pos ⟨I,a.2⟩]
   ·rw[if_neg a,if_neg];rintro ⟨j,g⟩;by_cases h:r=k
    ·exact e ⟨h,g⟩
    ·exact a ⟨I,g⟩
def ZcK (m:List Int) (C R i p:Nat) (t:Int):List Int:=ZgX (ZeP m C i p t) m C R i R
theorem ZcV (m:List Int) (C R i p:Nat) (t:Int):(ZcK m C R i p t).length=R*C:=Zfb _ _ _ _ _ _
theorem Zfj (hr:r<R) (hc:c<C):cell (ZcK m C R i p t) C r c=if c=i then ZeP m C i p t r else cell m C r c:=by
 unfold ZcK;rw[Zem hr hc];by_cases e:c=i
 ·rw[if_pos ⟨hr,e⟩,if_pos e]
 ·rw[if_neg (fun h=>e h.2),if_neg e]
theorem ZiS (h:NumL m) (ht: -400000000<=t/\t<=400000000) (hok:Zbv m C R i p t=true):ZcK m C R i p t=Zd4 m C R i p t:=
 Zbj (ZcV _ _ _ _ _ _) (ZiC _ _ _ _ _ _) fun r c a b=>by
  rw[Zfj a b,ZfE a b];split
  ·have:=ZeE.1 hok r a;exact Zss (Zk h C r i) (Zk h C r p) ht this.1 this.2
  ·rfl
theorem Zot (hl:m.length=R*C) (hi:i<R) (hj:j<C):cell m C i j∈m:=ZjX (by rw[hl];exact Zf hj hi)
theorem Zi5 (hi:i<C) (h:NumL m) (ht: -400000000<=t/\t<=400000000) (hok:Zbv m C R i p t=false):ZS∈ZcK m C R i p t:=by
 obtain ⟨r,c,a⟩: ∃ r,r<R/\ ¬ (Zi (cell m C r p*t)=true/\Zi (cell m C r i+cell m C r p*t)=true):=by
  rcases Mg (∃ r,r<R/\ ¬ (Zi (cell m C r p*t)=true/\Zi (cell m C r i+cell m C r p*t)=true)) with b|b
  ·exact b
  ·have:Zbv m C R i p t=true:=ZeE.2 fun k d=>LV fun f=>b ⟨k,d,f⟩;rw[this] at hok;cases hok
 have e:cell (ZcK m C R i p t) C r i=ZS:=by rw[Zfj c hi,if_pos rfl];exact Zr2 (Zk h C r p) ht a
 rw[←e];exact Zot (ZcV _ _ _ _ _ _) c hi
theorem ZoN {x:Int} (hl:m.length=R*C) (hx:x∈m): ∃ r c,r<R/\c<C/\cell m C r c=x:=by
 obtain ⟨k,a,rfl⟩:=List.mem_iff_getElem.1 hx;have b:0<C:=by
  rcases Lb C with e|e
  ·subst e;simp at hl;subst hl;simp at a
  ·exact e
 refine ⟨k/C,k%C,Mv (by rw[KT];omega),Lh _ b, ?_⟩;unfold cell;rw[show k/C*C+k%C=k by rw[KT];exact N0 k C];simp[KJ,JR a]
theorem ZgU (hl:m.length=R*C) (hb:ZS∈m):ZS∈ZcK m C R i p t:=by
 obtain ⟨r,c,a,b,e⟩:=ZoN hl hb;have d:cell (ZcK m C R i p t) C r c=ZS:=by
  rw[Zfj a b];split
  ·rename_i h;subst h;unfold ZeP;rw[e,ZnG]
  ·exact e
 rw[←d];exact Zot (ZcV _ _ _ _ _ _) a b
theorem Zio (h:NumBL m):NumBL (ZcK m C R i p t):=fun x a=>by
 obtain ⟨r,c,b,d,rfl⟩:=ZoN (ZcV _ _ _ _ _ _) a;rw[Zfj b d];split
 ·exact ZsO _ _
 ·exact h.getD _
structure Hm3 (C R:Nat) (s:SS):Prop where
 la:s.1.length=R*C
 lu:s.2.1.length=R*R
 lv:s.2.2.length=C*C
 na:NumBL s.1
 nu:NumBL s.2.1
 nv:NumBL s.2.2
def Mk3 (s:SS):Prop:=ZS∈s.1\/ZS∈s.2.1\/ZS∈s.2.2
theorem Ss.hm (h:Ss C R s):Hm3 C R s:=⟨h.la,h.lu,h.lv,h.na.bl,h.nu.bl,h.nv.bl⟩
theorem Ss.no (h:Ss C R s): ¬ Mk3 s:=by
 rintro (a|a|a)
 ·exact Zaz (h.na _ a) rfl
 ·exact Zaz (h.nu _ a) rfl
 ·exact Zaz (h.nv _ a) rfl
def Zb7 (C R i p:Nat) (t:Int) (s:SS):SS:=(Za3 s.1 C i p t,Za3 s.2.1 R i p t,s.2.2)
def Zfw (C R i p:Nat) (t:Int) (s:SS):SS:=(ZcK s.1 C R i p t,s.2.1,ZcK s.2.2 C C i p t)
theorem ZlS (h:Hm3 C R s):Hm3 C R (Zb7 C R i p t s):=⟨by simp[Zb7,ZdD,h.la],by simp[Zb7,ZdD,h.lu],h.lv,Zd8 h.na,Zd8 h.nu,h.nv⟩
theorem Zsj (h:Hm3 C R s):Hm3 C R (Zfw C R i p t s):=⟨ZcV _ _ _ _ _ _,h.lu,ZcV _ _ _ _ _ _,Zio h.na,h.nu,Zio h.nv⟩
theorem ZlP (h:Hm3 C R s) (hi:i<R) (hb:Mk3 s):Mk3 (Zb7 C R i p t s):=by
 rcases hb with hb|hb|hb
 ·exact .inl (ZfT h.la hi hb)
 ·exact .inr (.inl (ZfT h.lu hi hb))
 ·exact .inr (.inr hb)
theorem Zsq (h:Hm3 C R s) (hb:Mk3 s):Mk3 (Zfw C R i p t s):=by
 rcases hb with hb|hb|hb
 ·exact .inl (ZgU h.la hb)
 ·exact .inr (.inl hb)
 ·exact .inr (.inr (ZgU h.lv hb))
theorem Zgh (h:Ss C R s) (hi:i<R) (ht: -400000000<=t/\t<=400000000):(ZaP C R i p t s=some (Zb7 C R i p t s))\/(ZaP C R i p t s=none/\Mk3 (Zb7 C R i p t s)):=by
 unfold ZaP Zb7;cases a:Zae s.1 C i p t with
 |false=>exact .inr ⟨rfl, .inl (Zhz h.la hi h.na ht a)⟩
 |true=>
  cases b:Zae s.2.1 R i p t with
  |false=>exact .inr ⟨rfl, .inr (.inl (Zhz h.lu hi h.nu ht b))⟩
  |true=>exact .inl (by rw[Zhv h.na ht a,Zhv h.nu ht b];rfl)
theorem ZoL (h:Ss C R s) (hi:i<C) (ht: -400000000<=t/\t<=400000000):(Zbn C R i p t s=some (Zfw C R i p t s))\/(Zbn C R i p t s=none/\Mk3 (Zfw C R i p t s)):=by
 unfold Zbn Zfw;cases a:Zbv s.1 C R i p t with
 |false=>exact .inr ⟨rfl, .inl (Zi5 hi h.na ht a)⟩
 |true=>
  cases b:Zbv s.2.2 C C i p t with
  |false=>exact .inr ⟨rfl, .inr (.inr (Zi5 hi h.nv ht b))⟩
  |true=>exact .inl (by rw[ZiS h.na ht a,ZiS h.nv ht b];rfl)
theorem Zj3 (a:Option Addr) (n cp C R i p:Nat) (t:Int) (m:List Int) (w:World) (h:Own w 3 1 a n cp (ints m)) (hmR:m.length=R*C) (hi:i<C) (hp:p<C) (_hip:i≠p) (hm:NumBL m) (ht:NumS t) (hR:R<=24) (hC:C<=24):
  Calls JG 204 #[.agg #[Yv Yi R,Yv Yi C, .slice a n cp], .agg #[Yv Yi 2,Yv Yi i,Yv Yi p,Yv Yi t]] w fun e w'=>e= .returned (.tuple #[])/\Own w' 3 1 a n cp (ints (ZcK m C R i p t))/\Keep (fun q=>blk a≠some q) w w':=by
 have F:R*C<=24*24:=JL hR hC;obtain ⟨G,x⟩: ∃ G:Int,G=2:=⟨_,rfl⟩;rw[←x];have Z:m.length=n:=Ao
 obtain ⟨w2,y,hG2,bM,bX, -⟩:=al2 w #[Yv Yi (R:Int),Yv Yi (C:Int), .slice a n cp] 37 #[Yv Yi G,Yv Yi (i:Int),Yv Yi (p:Int),Yv Yi t] 169;have o:Own w2 3 1 a n cp (ints m):=h.grow hG2;have H:blk a≠some w.heap.size:=fun e=>Ap
 have J:blk a≠some (w.heap.size+1):=fun e=>Ap
 have L:=hid y;clear y;clear h;subst x;rw[←Zso (f:=ZeP m C i p t) (i:=i) hmR] at o;have ad:=hid hmR;have l:=hid (show R*C=n by rw[←Z,hmR]);have M:n<=576:=by rw[←l.out];omega
 clear hmR Z F;go_enter Qd,Qe;go_wp2;rw[←L.out];go_loopw [4] (fun q wr=>Keep (fun q=>blk a≠some q) w2 wr/\ ∃ k:Nat,k<=R/\q=Yv Yi k/\Own wr 3 1 a n cp (ints (ZgX (ZeP m C i p t) m C R i k))) (fun q _=>R-(intOf q).toNat);case atStart=>exact ⟨JO _ _,0,JI _,rfl,o⟩
 case round=>
  clear o;obtain ⟨hK,k,hk,rfl,hO⟩:=hrel;have z:=bM.keep hK H;obtain ⟨⟨a0,a1,a2⟩, -⟩:=z.three;have aa:=z.lt;by_cases b:k<R
  ·have d:=bX.keep hK J;have x0:=d.cell 0;have x1:=d.cell 1;have x2:=d.cell 2;have x3:=d.cell 3;have ab:=d.lt;simp only[Kt,Ku,Kx] at x0 x1 x2 x3;have A:(ZgX (ZeP m C i p t) m C R i k).length=n:=(by rw[Zfb,l.out]);have ae:k*C+i<n:=(by rw[←l.out];exact Zf hi b);have af:k*C+p<n:=(by rw[←l.out];exact Zf hp b);have B:(ZgX (ZeP m C i p t) m C R i k).getD (k*C+i) 0=cell m C k i:=(by have:=Zem (f:=ZeP m C i p t) (m:=m) (i:=i) (k:=k) b hi;rw[if_neg I] at this;exact this);have D:(ZgX (ZeP m C i p t) m C R i k).getD (k*C+p) 0=cell m C k p:=(by have:=Zem (f:=ZeP m C i p t) (m:=m) (i:=i) (k:=k) b hp;rw[if_neg I] at this;exact this);obtain ⟨r,rfl⟩: ∃ r,a=some ⟨r,0,none⟩:=by
    exact Gz
   have N:=hO.cell (Zab I B);have O:=hO.cell (Zab I D);have P:=hO.free (k*C+i);have ag:=hO.lt (g:=r) rfl;have T:NumS (cell m C k i):=hm.getD _;have V:NumS (cell m C k p):=hm.getD _;have u1:=Z6 (i:=k) (c:=C) I I;have u2:=ZaF (i:=k) (c:=C) (j:=i) I I I rfl;have u4:=ZaF (i:=k) (c:=C) (j:=p) I I I rfl;have ah:=hO.le;have Hv:=hid (show ZeP m C i p t k=ZbX (cell m C k i) (ZaT (cell m C k p) t) from rfl);have s:=(hO.set (k*C+i) (Yv Yi (ZeP m C i p t k))).grow (Grow.refl _).drew;rw[←ints_set,Zs8 hi b] at s;clear hO B D A;generalize cell m C k i=ca at *;generalize cell m C k p=cb at *;generalize W:k*C+i=ix at *;generalize X:k*C+p=iy at *;clear W X;simp only at N O P s;go_wp2;refine Zd1 (S:=(Keep (fun q=>blk (some (⟨r,0,none⟩:Addr))≠some q) wr)) [0,1,2,3,4,5,6,7,8,9,10,11,12] [13,14,15,16] ZaB Ξ (fun _ _ _ _ _ h=>h) (JO _ _).drew ?_;show wpQuiet _ _ _ (fun a'=>ZaQ _ _ _ _ [_,_,_,_] a' _) [_,_,_,_,_,_,_,_,_,_,_,_,_] _;(repeat (first |(go_big_quiet_want;(first |refine Zw Zhn rfl rfl (fun w' v=>v.cell H a2) ?_|refine Zw Zb6 rfl rfl (fun w' v=>v.cell J x1) ?_|refine Zw Zb6 rfl rfl (fun w' v=>v.cell H a1) ?_|refine Zw Zb6 rfl rfl (fun w' v=>v.cell J x3) ?_);go_big_quiet_on;simp only[putP])|go_big_quiet_step (exact fun _=>rfl)));refine wpQuiet_nil ?_;show ZaQ _ _ _ _ _ _ _;refine ZX rfl (fun K hK=> ?_);go_wp2_with fail;refine (Zlp cb t _ V ht).mono ?_;rintro e _ ⟨rfl,rfl⟩;go_wp2_with fail;refine hK _ _ ((JO _ _).drew) ?_;clear hK K;refine ZX rfl (fun K hK=> ?_);go_wp2_with fail;refine (ZpZ ca (ZaT cb t) _ T (Zsd _ _)).mono ?_;rintro e _ ⟨rfl,rfl⟩;rw[←Hv.out];go_wp2_with fail;refine hK _ _ ((JO _ _).drew) ?_;clear hK K;refine ZX rfl (fun K hK=> ?_);go_wp2_with fail;refine hK _ _ ((JO _ _).drew) ?_;clear hK K;refine ZX rfl (fun K hK=> ?_);go_wp2_with fail;have E:Keep (fun q=>blk (some (⟨r,0,none⟩:Addr))≠some q) wr (wr.setCell ⟨r,ix,none⟩ (Yv Yi (ZeP m C i p t k))).drew:=((JO _ wr).setCell (p:=⟨r,ix,none⟩) (fun _ e=>e rfl) _).drew;refine hK _ _ (E) ?_;clear hK K;refine Zfg ?_;go_wp2;go_roundw;case rel=>exact ⟨hK.trans E,k+1,I,Δ,s⟩
   case measure=>exact FN
  ·have Y:k=R:=I;rw[Y] at hO;go_wp2;exact G9
def ZgW (m:List Int) (C R i p k:Nat):List Int:=tab R C fun r c=>if r<k then (if c=i then cell m C r p else if c=p then cell m C r i else cell m C r c) else cell m C r c
theorem Zed (m:List Int) (C R i p k:Nat):(ZgW m C R i p k).length=R*C:=Zc8 _ _ _
theorem Zen (hr:r<R) (hc:c<C):cell (ZgW m C R i p k) C r c=if r<k then (if c=i then cell m C r p else if c=p then cell m C r i else cell m C r c) else cell m C r c:=Zcq hr hc
theorem Zsz (hl:m.length=R*C):ZgW m C R i p 0=m:=Zbj (Zed _ _ _ _ _ _) hl fun r c a b=>by rw[Zen a b,if_neg I]
theorem Zty:ZgW m C R i p R=Zf8 m C R i p:=Zbj (Zed _ _ _ _ _ _) (ZjY _ _ _ _ _) fun r c a b=>by rw[Zen a b,if_pos a,ZtX a b]
theorem ZtH (hi:i<C) (hp:p<C) (hip:i≠p) (hk:k<R):((ZgW m C R i p k).set (k*C+i) (cell m C k p)).set (k*C+p) (cell m C k i)=ZgW m C R i p (k+1):=
 Zbj (by rw[KZ,KZ,Zed]) (Zed _ _ _ _ _ _) fun r c d b=>by
  rw[ZhS (by rw[KZ,Zed]) hk hp b,ZhS (Zed _ _ _ _ _ _) hk hi b,Zen d b,Zen d b];by_cases e:r=k
  ·subst e;rw[if_pos (show r<r+1 by omega)];by_cases a:c=i
   ·subst a;rw[if_neg I,if_pos ⟨rfl,rfl⟩,if_pos rfl]
   ·by_cases f:c=p
    ·subst f;rw[if_pos ⟨rfl,rfl⟩,if_neg a,if_pos rfl]
    ·rw[if_neg I,if_neg I,if_neg I,if_neg a,if_neg f]
  ·rw[if_neg I,if_neg I];by_cases a:r<k
   ·rw[if_pos a,if_pos (show r<k+1 by omega)]
   ·rw[if_neg a,if_neg (show ¬ r<k+1 by omega)]
theorem ZiX (a:Option Addr) (n cp C R i p:Nat) (t:Int) (m:List Int) (w:World) (h:Own w 3 1 a n cp (ints m)) (hmR:m.length=R*C) (hi:i<C) (hp:p<C) (hip:i≠p) (hR:R<=24) (hC:C<=24):
  Calls JG 204 #[.agg #[Yv Yi R,Yv Yi C, .slice a n cp], .agg #[Yv Yi 0,Yv Yi i,Yv Yi p,Yv Yi t]] w fun e w'=>e= .returned (.tuple #[])/\Own w' 3 1 a n cp (ints (Zf8 m C R i p))/\Keep (fun q=>blk a≠some q) w w':=by
 have D:R*C<=24*24:=JL hR hC;obtain ⟨E,s⟩: ∃ E:Int,E=0:=⟨_,rfl⟩;rw[←s];have S:m.length=n:=Ao
 obtain ⟨T,v,hG2,Z,bX, -⟩:=al2 w #[Yv Yi (R:Int),Yv Yi (C:Int), .slice a n cp] 37 #[Yv Yi E,Yv Yi (i:Int),Yv Yi (p:Int),Yv Yi t] 169;have o:Own T 3 1 a n cp (ints m):=h.grow hG2;have V:blk a≠some w.heap.size:=fun e=>Ap
 have W:blk a≠some (w.heap.size+1):=fun e=>Ap
 have F:=hid v;clear v;clear h;subst s;rw[←Zsz (i:=i) (p:=p) hmR] at o;have aa:=hid hmR;have f:=hid (show R*C=n by rw[←S,hmR]);have G:n<=576:=by rw[←f.out];omega
 clear hmR S D;go_enter Qd,Qe;go_wp2;rw[←F.out];go_loopw [4] (fun q wr=>Keep (fun q=>blk a≠some q) T wr/\ ∃ k:Nat,k<=R/\q=Yv Yi k/\Own wr 3 1 a n cp (ints (ZgW m C R i p k))) (fun q _=>R-(intOf q).toNat);case atStart=>exact ⟨JO _ _,0,JI _,rfl,o⟩
 case round=>
  clear o;obtain ⟨hK,k,hk,rfl,hO⟩:=hrel;have x:=Z.keep hK V;obtain ⟨⟨a0,a1,a2⟩, -⟩:=x.three;have X:=x.lt;by_cases b:k<R
  ·have d:=bX.keep hK W;have x0:=d.cell 0;have x1:=d.cell 1;have x2:=d.cell 2;have x3:=d.cell 3;have Y:=d.lt;simp only[Kt,Ku,Kx] at x0 x1 x2 x3;have y:(ZgW m C R i p k).length=n:=(by rw[Zed,f.out]);have ab:k*C+i<n:=(by rw[←f.out];exact Zf hi b);have ad:k*C+p<n:=(by rw[←f.out];exact Zf hp b);have z:(ZgW m C R i p k).getD (k*C+i) 0=cell m C k i:=(by have:=Zen (m:=m) (i:=i) (p:=p) (k:=k) b hi;rw[if_neg I] at this;exact this);have A:(ZgW m C R i p k).getD (k*C+p) 0=cell m C k p:=(by have:=Zen (m:=m) (i:=i) (p:=p) (k:=k) b hp;rw[if_neg I] at this;exact this);obtain ⟨l,rfl⟩: ∃ l,a=some ⟨l,0,none⟩:=by
    exact Gz
   have H:=hO.cell (Zab I z);have J:=hO.cell (Zab I A);have L:=hO.free (k*C+i);have B:=hO.free (k*C+p);have ae:=hO.lt (g:=l) rfl;have af:k*C+i≠k*C+p:=I;have u1:=Z6 (i:=k) (c:=C) I I;have u2:=ZaF (i:=k) (c:=C) (j:=i) I I I rfl;have u4:=ZaF (i:=k) (c:=C) (j:=p) I I I rfl;have ag:=hO.le;have r:=(hO.set (k*C+i) (Yv Yi (cell m C k p))).set (k*C+p) (Yv Yi (cell m C k i));rw[←ints_set, ←ints_set,ZtH hi hp hip b] at r;clear hO z A y;generalize cell m C k i=ca at *;generalize cell m C k p=cb at *;generalize M:k*C+i=ix at *;generalize N:k*C+p=iy at *;have O:Keep (fun q=>blk (some (⟨l,0,none⟩:Addr))≠some q) wr ((wr.setCell ⟨l,ix,none⟩ (Yv Yi cb)).setCell ⟨l,iy,none⟩ (Yv Yi ca)):=kS;clear M N;simp only at H J L B r;have ah:l≠w.heap.size:=fun e=>V ξ;have ai:l≠w.heap.size+1:=fun e=>W ξ;go_wp2;go_roundw;case rel=>exact ⟨hK.trans O,k+1,I,Δ,r⟩
   case measure=>exact FN
  ·have P:k=R:=I;rw[P,Zty] at hO;go_wp2;exact G9
def Rg (R C:Nat) (b:Int×Int):Prop:=b=(-1, -1)\/ ∃ r c:Nat,b=((r:Int),(c:Int))/\r<R/\c<C
theorem ZkO {m:List Int} {C R t i:Nat} {b:Int×Int} (hi:i<R) (hb:Rg R C b): ∀ n,t+n<=C->Rg R C (lsJ m C t i n b)
 |0,_=>hb
 |n+1,hn=>by
  simp only[lsJ];split
  ·exact .inr ⟨i,t+n,rfl,hi,I⟩
  ·exact ZkO hi hb n I
theorem Znr {m:List Int} {C R t:Nat} (htC:t<=C): ∀ n,t+n<=R->Rg R C (lsI m C t n)
 |0,_=> .inl rfl
 |n+1,hn=>ZkO I (Znr htC n I) _ I
theorem ZkE (h:cell m C i j=0):ZcA m C b i j=false:=by unfold ZcA;rw[decide_eq_false Ey];rfl
theorem ZjE (h:cell m C i j≠0):ZcA m C (-1, -1) i j=true:=by unfold ZcA;rw[decide_eq_true h];rfl
theorem Zn5 (h:cell m C i j≠0):ZcA m C ((r:Int),(c:Int)) i j=decide ((cell m C i j).natAbs<(cell m C r c).natAbs):=by
 unfold ZcA;rw[decide_eq_true h,decide_eq_false Θ];simp
theorem Zq7 {S:Nat->Prop} (a:Option Addr) (n cp C R t:Nat) (cells:List Int) (w:World) (h:RdI w S a n cp cells) (hl:cells.length=R*C) (hn:NumL cells) (ht:t<=R) (htC:t<=C) (hR:R<=24) (hC:C<=24):
  Calls JG 203 #[.agg #[Yv Yi R,Yv Yi C, .slice a n cp],Yv Yi t] w fun e w'=>e= .returned (.tuple #[Yv Yi (Z4 cells C R t).1,Yv Yi (Z4 cells C R t).2])/\Grow w w':=by
 have D:=h.len;obtain ⟨w2,E,F,bM, -⟩:=al1 w #[Yv Yi (R:Int),Yv Yi (C:Int), .slice a n cp] 37;have P:=hid E;clear E;have G:=hid (show R*C=n by rw[←D,hl]);clear hl D;replace h:=h.grow F;go_enter Tryz.func203,Tryz.ntmps203;go_wp2;rw[←P.out];go_loopw [6,7,8] (fun x y q wr=>Grow w2 wr/\ ∃ i:Nat,t<=i/\i<=R/\q=Yv Yi i/\x=Yv Yi (lsI cells C t (i-t)).1/\y=Yv Yi (lsI cells C t (i-t)).2) (fun _ _ q _=>R-(intOf q).toNat);case atStart=>exact ⟨Grow.refl _,t,JM _,ht,rfl,AC,AC⟩
 case round=>
  obtain ⟨wo,rfl⟩:=eX wr;obtain ⟨o,i,ab,hi,rfl,rfl,rfl⟩:=hrel;have f:=bM.grow o;obtain ⟨⟨z,A,B⟩, -⟩:=f.three;have g:=f.lt;have T:=Znr (m:=cells) (R:=R) htC (i-t) I;by_cases H:i<R
  ·have hE:=hid (show lsJ cells C t i (C-t) (lsI cells C t (i-t))=lsI cells C t (i+1-t) by rw[show i+1-t=(i-t)+1 by omega];simp only[lsI];rw[show t+(i-t)=i by omega]);generalize lsI cells C t (i-t)=p at *;go_wp2;go_loopw [6,7,9] (fun x y q v=>Grow w2 v/\ ∃ j:Nat,t<=j/\j<=C/\q=Yv Yi j/\x=Yv Yi (lsJ cells C t i (j-t) p).1/\y=Yv Yi (lsJ cells C t i (j-t) p).2) (fun _ _ q _=>C-(intOf q).toNat);case atStart=>exact ⟨o,t,JM _,htC,rfl,AC,AC⟩
   case round=>
    clear z A B g f o;obtain ⟨o,j,ad,hj,rfl,rfl,rfl⟩:=hrel;have f:=bM.grow o;have O:=h.grow o;obtain ⟨⟨z,A,B⟩, -⟩:=f.three;have g:=f.lt;have J:=ZkO (m:=cells) (t:=t) H T (j-t) I;have d:=hid (show lsJ cells C t i (j+1-t) p=if ZcA cells C (lsJ cells C t i (j-t) p) i j=true then ((i:Int),(j:Int)) else lsJ cells C t i (j-t) p by rw[show j+1-t=(j-t)+1 by omega];simp only[lsJ];rw[show t+(j-t)=j by omega]);by_cases V:j<C
    ·have L:i*C+j<n:=(by rw[←G.out];exact Zf V H);have hx:=Zk hn C i j;go_wp2_with fail;refine (ZO a n cp C i j (R:Int) cells _ O L I I I).mono ?_;rintro e w3 ⟨rfl,s⟩;clear L;go_wp2_with fail;refine (Zeu _ _ I).mono ?_;rintro e _ ⟨rfl,rfl⟩;replace O:=O.grow s;replace f:=f.grow s;have k:=o.trans s;clear z A B g o s;obtain ⟨⟨z,A,B⟩, -⟩:=f.three;have g:=f.lt;generalize lsJ cells C t i (j-t) p=b at *;by_cases l:cell cells C i j=0
     ·have HL:=hid (show lsJ cells C t i (j+1-t) p=b by rw[d.out,ZkE l];rfl);rw[l];clear d hx l;clear z A B;go_wp2;go_roundw;case rel=>exact ⟨k,j+1,I,I,Δ,ζ,ζ⟩
      case measure=>exact FN
     ·rcases J with rfl|⟨r,c,rfl,W,X⟩
      ·have HL:=hid (show lsJ cells C t i (j+1-t) p=((i:Int),(j:Int)) by rw[d.out,ZjE l,if_pos rfl]);have q1:(((cell cells C i j).natAbs:Int)!=0)=true:=Ψ;clear d;generalize cell cells C i j=x at *;clear z A B;go_wp2;go_roundw;case rel=>exact ⟨k,j+1,I,I,Δ,ζ,ζ⟩
       case measure=>exact FN
      ·have M:=Zn5 (r:=r) (c:=c) l;have N:r*C+c<n:=(by rw[←G.out];exact Zf X W);have hy:=Zk hn C r c;have q1:(((cell cells C i j).natAbs:Int)!=0)=true:=Ψ;have q2:decide ((r:Int)<0)=false:=decide_eq_false I;rw[M] at d;clear M;generalize cell cells C i j=x at *;go_wp2_with fail;refine (ZO a n cp C r c (R:Int) cells _ O N I I I).mono ?_;rintro e w4 ⟨rfl,Y⟩;clear N;generalize cell cells C r c=y at *;go_wp2_with fail;refine (Zeu _ _ I).mono ?_;rintro e _ ⟨rfl,rfl⟩;replace k:=k.trans Y;by_cases hc:x.natAbs<y.natAbs
       ·have HL:=hid (show lsJ cells C t i (j+1-t) p=((i:Int),(j:Int)) by rw[d.out,decide_eq_true hc,if_pos rfl]);clear d;clear z A B;go_wp2;go_roundw;case rel=>exact ⟨k,j+1,I,I,Δ,ζ,ζ⟩
        case measure=>exact FN
       ·have HL:=hid (show lsJ cells C t i (j+1-t) p=((r:Int),(c:Int)) by rw[d.out,decide_eq_false hc];rfl);clear d;clear z A B;go_wp2;go_roundw;case rel=>exact ⟨k,j+1,I,I,Δ,ζ,ζ⟩
        case measure=>exact FN
    ·have Z:j=C:=I;subst Z;clear d J;go_wp2;go_roundw;case rel=>exact ⟨o,i+1,I,I,Δ,Fx,Fx⟩
     case measure=>exact FN
  ·have aa:i=R:=I;subst aa;go_wp2
   go_ret2
   exact ⟨rfl,F.trans o⟩

end Go.Proofs.YtgjefeiddfjjnaaGreatDoor
