/- Numbers read back from their texts: the plain functions. -/
import Derived.Lib.AtoiTie
import Derived.Test.YtjpcgofidijigaaGreatDoorZFmtS
import Derived.Lib.FieldsP
import Derived.Lib.IndexMore
import Derived.Lib.Strings
import Derived.Laws.RangeString
namespace Go.Proofs.YtjpcgofidijigaaGreatDoor
open Go.RowKit
variable {C R:Nat} {a s:List UInt8} {b c:UInt8} {cells:List Int} {m:Mat} {n:Int}
theorem ZfS: ∀ (a b:List UInt8) (acc:Nat),Lib.decFrom acc (a++b)=(Lib.decFrom acc a).bind fun x=>Lib.decFrom x b
 |[],b,acc=>rfl
 |c::a,b,acc=>by
  simp only[List.cons_append,Lib.decFrom];cases Lib.digitVal c with
  |none=>rfl
  |some d=>exact ZfS a b _
theorem Zg9 {d:Nat} (h:d<10):Lib.digitVal (UInt8.ofNat (48+d))=some d:=by
 have e:(UInt8.ofNat (48+d)).toNat=48+d:=by rw[UInt8.toNat_ofNat'];omega
 unfold Lib.digitVal;rw[e,if_pos (by omega)];congr 1;omega
theorem ZfW: ∀ (u:Nat),Lib.decFrom 0 (Lib.decDigits u)=some u:=by
 intro u;induction u using Nat.strongRecOn with
 |_ u ih=>
  by_cases h:u<10
  ·rw[Lib.decDigits,dif_pos h];simp only[Lib.decFrom,Zg9 h];simp
  ·rw[ZfK h,ZfS,ih (u/10) (by omega)];simp only[Option.bind_some,Lib.decFrom,Zg9 (Nat.mod_lt u (by decide))];congr 1;omega
theorem Zha (u:Nat):Lib.decDigits u≠[]:=fun e=>by
 have h1:=Lib.decDigits_length u;have h2:=Lib.nDigits_pos u;rw[e] at h1;simp at h1;omega
theorem Zev {u:Nat} (h:b∈Lib.decDigits u):48<=b.toNat/\b.toNat<=57:=by
 obtain ⟨k,hk⟩:=List.mem_iff_getElem?.1 h;obtain ⟨d,hd⟩:=Lib.digit_of_decFrom _ _ _ (ZfW u) k b hk;have:=Lib.digitVal_eq hd;omega
theorem ZdC (h:b∈Lib.itoa n):b.toNat=45\/(48<=b.toNat/\b.toNat<=57):=by
 unfold Lib.itoa at h;split at h
 ·rcases List.mem_cons.1 h with rfl|h
  ·exact .inl rfl
  ·exact .inr (Zev h)
 ·exact .inr (Zev h)
theorem ZgN (u:Nat):Lib.decNat (Lib.decDigits u)=some u:=by
 unfold Lib.decNat;rw[if_neg (by rw[List.isEmpty_iff];exact Zha u),ZfW]
theorem Zkj (n:Int):Lib.atoi (Lib.itoa n)=some n:=by
 unfold Lib.itoa;by_cases h:n<0
 ·rw[if_pos h];simp only[Lib.atoi,beq_self_eq_true,if_true,ZgN,Option.map_some];congr 1;omega
 ·rw[if_neg h]
  match hd:Lib.decDigits n.toNat,Zha n.toNat with
  |b::r,_=>have hb:=Zev (u:=n.toNat) (b:=b) (by rw[hd];simp);have h45:(b==45)=false:=(by rw[beq_eq_false_iff_ne];intro e;subst e;simp at hb);have h43:(b==43)=false:=(by rw[beq_eq_false_iff_ne];intro e;subst e;simp at hb);simp only[Lib.atoi,h45,h43, ←hd,ZgN];simp;omega
theorem Zhd (h:Zl n=true):Lib.atoiAll (Lib.itoa n)= .ok n:=by
 have:=Za2 h;rw[Lib.atoiAll_short _ (by have:=Zan this.1 this.2;omega),Zkj];rfl
def ZbR (s:List UInt8):Option Int:=match Lib.atoi s with
 |some n=>if Zl n=true/\Lib.itoa n=s then some n else none
 |none=>none
theorem Zcs (h1:Zl n=true) (h2:Lib.itoa n=s):ZbR s=some n:=by
 unfold ZbR;rw[←h2,Zkj];simp[h1]
theorem ZgX (h:ZbR s=some n):Zl n=true/\Lib.itoa n=s:=by
 unfold ZbR at h;split at h
 ·split at h
  ·rename_i hh;obtain rfl:=Option.some.inj h;exact hh
  ·cases h
 ·cases h
theorem ZgZ (h: ∀ n,Zl n=true->Lib.itoa n≠s):ZbR s=none:=by
 cases hp:ZbR s with
 |none=>rfl
 |some n=>exact absurd (ZgX hp).2 (h n (ZgX hp).1)
def ZaB (s:List UInt8):Int:=(ZbR s).getD 0
def Zbw (s:List UInt8):Bool:=(ZbR s).isSome
theorem Zdm (h:ZbR s=some n):ZaB s=n/\Zbw s=true:=by unfold ZaB Zbw;rw[h];exact ⟨rfl,rfl⟩
theorem ZiT (h:ZbR s=none):ZaB s=0/\Zbw s=false:=by unfold ZaB Zbw;rw[h];exact ⟨rfl,rfl⟩
theorem Zee (s:List UInt8):Zl (ZaB s)=true:=by
 unfold ZaB;cases h:ZbR s with
 |none=>rfl
 |some n=>exact (ZgX h).1
theorem Zqj {v:Int} (h:Lib.atoiAll s= .ok v):ZbR s=if Zl v=true/\Lib.itoa v=s then some v else none:=by
 split
 ·rename_i hh;exact Zcs hh.1 hh.2
 ·rename_i hh;refine ZgZ fun n h1 h2=>hh ?_;rw[←h2,Zhd h1] at h;injection h with h;subst h;exact ⟨h1,h2⟩
theorem ZlI (h: ∀ v,Lib.atoiAll s≠ .ok v):ZbR s=none:=
 ZgZ fun n h1 h2=>h n (by rw[←h2,Zhd h1])
def Zsl (s:List UInt8):Bool:=s.head?==some 45
def Znj (s:List UInt8):List UInt8:=if Zsl s then s.drop 1 else s
def pmarks:List UInt8:=[120,91,93,59,32]
def pm (c:UInt8):Bool:=pmarks.contains c
theorem Zey {p:UInt8->Bool} {r:List UInt8}: ∀ {a cur:List UInt8},(∀ x∈a,p x=false)->Zp p cur (a++r)=Zp p (cur++a) r
 |[],cur,_=>by simp
 |x::a,cur,h=>by have hx:=h x (by simp);simp only[List.cons_append,Zp,hx];rw[if_neg (by simp),Zey (a:=a) fun y hy=>h y (by simp[hy])];simp
theorem ZfI: ∀ x∈Lib.itoa n,pm x=false:=fun x hx=>by
 have:=ZdC hx;unfold pm pmarks;rw[Bool.eq_false_iff];intro e;simp only[List.contains_eq_mem,List.mem_cons,List.not_mem_nil,or_false,decide_eq_true_eq] at e;rcases e with rfl|rfl|rfl|rfl|rfl<;>simp at this
theorem ZgU {C:Nat}: ∀ {l:List Int} {k:Nat} {cur:List UInt8},0<k->Zp pm cur (Zw C k l++[93])=cur::(l.map Lib.itoa++[[]])
 |[],k,cur,_=>rfl
 |x::l,k,cur,hk=>by
  have ih:=ZgU (C:=C) (l:=l) (k:=k+1) (cur:=Lib.itoa x) (by omega);by_cases hm:k%C=0
  ·simp only[Zw];rw[if_pos ⟨hk,hm⟩];simp only[List.cons_append,List.nil_append,List.append_assoc];rw[show Zp pm cur (59::(Lib.itoa x++(Zw C (k+1) l++[93])))=cur::Zp pm [] (Lib.itoa x++(Zw C (k+1) l++[93])) from rfl];rw[Zey ZfI,List.nil_append,ih];simp
  ·simp only[Zw];rw[if_neg (fun e=>hm e.2),if_pos hk];simp only[List.cons_append,List.nil_append,List.append_assoc];rw[show Zp pm cur (32::(Lib.itoa x++(Zw C (k+1) l++[93])))=cur::Zp pm [] (Lib.itoa x++(Zw C (k+1) l++[93])) from rfl];rw[Zey ZfI,List.nil_append,ih];simp
theorem ZkS (l:List Int):Zp pm [] (Zw C 0 l++[93])=(if l=[] then [[]] else l.map Lib.itoa)++[[]]:=by
 cases l with
 |nil=>rfl
 |cons x l=>simp only[Zw];rw[if_neg (fun e=>by omega),if_neg (by omega),if_neg (by simp)];simp only[List.nil_append,List.append_assoc];rw[Zey ZfI,List.nil_append,ZgU (by omega)];simp
theorem Zod (h:Ze ⟨R,C,cells⟩=true):Zp pm [] (ZaL ⟨R,C,cells⟩)=Lib.itoa R::Lib.itoa C::((if cells=[] then [[]] else cells.map Lib.itoa)++[[]]):=by
 rw[Zfm h];unfold ZbT;simp only[List.append_assoc,List.cons_append,List.nil_append];rw[ZcY (by rfl) ZfI,List.nil_append,ZcY (by rfl) ZfI,List.nil_append,ZkS]
def ZiI (s:List UInt8):List (List UInt8):=Zp pm [] s
def Zi8 (s:List UInt8):Mat:=⟨ZaB ((ZiI s).getD 0 []),ZaB ((ZiI s).getD 1 []),(((ZiI s).drop 2).dropLast).filterMap ZbR⟩
def ZaD (s:List UInt8):Option Mat:=if 4<=(ZiI s).length/\s.length<=8000/\ZaL (Zi8 s)=s then some (Zi8 s) else none
theorem Zic: ∀ {l:List Int},(∀ x∈l,Zl x=true)->(l.map Lib.itoa).filterMap ZbR=l
 |[],_=>rfl
 |x::l,h=>by simp only[List.map_cons];rw[List.filterMap_cons_some (Zcs (h x (by simp)) rfl),Zic fun y hy=>h y (by simp[hy])]
theorem ZpP:ZbR []=none:=ZgZ fun n _ h=>ZfP n h
theorem Zo5 (h:Ze m=true):Zi8 (ZaL m)=m/\4<=(ZiI (ZaL m)).length:=by
 obtain ⟨R,C,hR,hC,hR24,hC24,hlen,hnum⟩:=Zn h;obtain ⟨r,k,cells⟩:=m;simp only at hR hC hlen hnum;subst hR;subst hC;unfold Zi8 ZiI;rw[Zod h];have e1:=(Zdm (Zcs (s:=Lib.itoa R) (n:=(R:Int)) (ZI.2 (by omega)) rfl)).1;have e2:=(Zdm (Zcs (s:=Lib.itoa C) (n:=(C:Int)) (ZI.2 (by omega)) rfl)).1;have e3:((if cells=[] then [[]] else cells.map Lib.itoa):List (List UInt8)).filterMap ZbR=cells:=by
  split
  ·rename_i h0;rw[h0,List.filterMap_cons_none ZpP];rfl
  ·exact Zic fun x hx=>ZI.2 (hnum x hx)
 have e4:1<=((if cells=[] then [[]] else cells.map Lib.itoa):List (List UInt8)).length:=by
  split
  ·simp
  ·rename_i h0;have:=List.length_pos_iff.2 h0;simp;omega
 refine ⟨?_,by simp only[List.length_cons,List.length_append];simp only[List.length_nil];omega⟩;simp only[List.getD_cons_zero,List.getD_cons_succ,e1,e2,List.drop_succ_cons,List.drop_zero,List.dropLast_concat,e3]
theorem Zcu:ZaD s=some m↔Ze m=true/\ZaL m=s:=by
 constructor
 ·intro h;unfold ZaD at h;split at h
  ·rename_i hh;obtain rfl:=Option.some.inj h;refine ⟨?_,hh.2.2⟩;cases hm:Ze (Zi8 s) with
   |true=>rfl
   |false=>exfalso;have:=hh.2.2;rw[ZhK hm] at this;rw[←this] at hh;simp[ZiI,Zp] at hh
  ·cases h
 ·rintro ⟨h1,rfl⟩;obtain ⟨e1,e2⟩:=Zo5 h1;unfold ZaD;rw[e1,if_pos ⟨e2,by have:=Zcv m;omega,rfl⟩]
theorem Zps (h: ∀ m,Ze m=true->ZaL m≠s):ZaD s=none:=by
 cases hp:ZaD s with
 |none=>rfl
 |some m=>exact absurd (Zcu.1 hp).2 (h m (Zcu.1 hp).1)
def zeroP:Mat:=⟨0,0,[]⟩
def Zfn (s:List UInt8):Mat:=(ZaD s).getD zeroP
def Zfh (s:List UInt8):Bool:=(ZaD s).isSome
theorem Zme (h:ZaD s=some m):Zfn s=m/\Zfh s=true:=by unfold Zfn Zfh;rw[h];exact ⟨rfl,rfl⟩
theorem Zec (h:ZaD s=none):Zfn s=zeroP/\Zfh s=false:=by unfold Zfn Zfh;rw[h];exact ⟨rfl,rfl⟩
theorem Zok (s:List UInt8):Ze (Zfn s)=true:=by
 unfold Zfn;cases h:ZaD s with
 |none=>rfl
 |some m=>exact (Zcu.1 h).1
theorem Zge {c:UInt8}: ∀ {a r:List UInt8},(∀ x∈a,x≠c)->Lib.index (a++c::r) [c]=(a.length:Int)
 |[],r,_=>by
  have e:[c].isPrefixOf (c::r)=true:=by simp[List.isPrefixOf]
  simp only[List.nil_append,Lib.index,e,if_true];rfl
 |b::a,r,h=>by
  have hb:[c].isPrefixOf (b::(a++c::r))=false:=by simp only[List.isPrefixOf,Bool.and_true];exact beq_eq_false_iff_ne.2 fun e=>h b (by simp) e.symm
  have ih:=Zge (r:=r) fun x hx=>h x (List.mem_cons_of_mem b hx);simp only[List.cons_append,Lib.index,hb,ih];rw[if_neg (by simp),if_neg (by simp)];simp
theorem ZgD {c:UInt8}: ∀ {a:List UInt8},(∀ x∈a,x≠c)->Lib.index a [c]= -1
 |[],_=>by simp[Lib.index]
 |b::a,h=>by
  have hb:[c].isPrefixOf (b::a)=false:=by simp only[List.isPrefixOf,Bool.and_true];exact beq_eq_false_iff_ne.2 fun e=>h b (by simp) e.symm
  have ih:=ZgD fun x hx=>h x (List.mem_cons_of_mem b hx);simp only[Lib.index,hb,ih];simp
theorem ZlN {r:List UInt8} (h: ∀ x∈a,x≠c):Lib.cut (a++c::r) [c]=(a,r,true):=by
 unfold Lib.cut;rw[Zge h,if_pos (by omega)];have:((a.length:Int)).toNat=a.length:=by omega
 rw[this];simp
theorem Zsr (h: ∀ x∈a,x≠c):Lib.cut a [c]=(a,[],false):=by
 unfold Lib.cut;rw[ZgD h,if_neg (by omega)]
theorem ZjG (s sep:List UInt8):(Lib.cut s sep).1.length<=s.length/\(Lib.cut s sep).2.1.length<=s.length:=by
 unfold Lib.cut;split
 ·simp;omega
 ·simp
def fld (q:UInt8->Bool) (cur:List UInt8):List UInt8->List (List UInt8)
 |[]=>if cur=[] then [] else [cur]
 |c::r=>if q c=true then (if cur=[] then fld q [] r else cur::fld q [] r) else fld q (cur++[c]) r
theorem ZlF {q:UInt8->Bool} {r:List UInt8}: ∀ {a cur:List UInt8},(∀ x∈a,q x=false)->fld q cur (a++r)=fld q (cur++a) r
 |[],cur,_=>by simp
 |x::a,cur,h=>by have hx:=h x (by simp);simp only[List.cons_append,fld,hx];rw[if_neg (by simp),ZlF (a:=a) fun y hy=>h y (by simp[hy])];simp
def fq (c:UInt8):Bool:=c==32||c==59
theorem Zm6: ∀ x∈Lib.itoa n,fq x=false:=fun x hx=>by
 have:=ZdC hx;unfold fq;rw[Bool.eq_false_iff];intro e;simp only[Bool.or_eq_true,beq_iff_eq] at e;rcases e with rfl|rfl<;>simp at this
theorem Zj1 {C:Nat}: ∀ {l:List Int} {k:Nat} {cur:List UInt8},0<k->cur≠[]->fld fq cur (Zw C k l)=cur::l.map Lib.itoa
 |[],k,cur,_,hc=>by simp[Zw,fld,hc]
 |x::l,k,cur,hk,hc=>by
  have ih:=Zj1 (C:=C) (l:=l) (k:=k+1) (cur:=Lib.itoa x) (by omega) (ZfP x);have e: ∀ c:UInt8,fq c=true->fld fq cur (c::(Lib.itoa x++Zw C (k+1) l))=cur::(x::l).map Lib.itoa:=fun c hc0=>by simp only[fld];rw[if_pos hc0,if_neg hc,ZlF Zm6,List.nil_append,ih];rfl
  simp only[Zw];by_cases hm:k%C=0
  ·rw[if_pos ⟨hk,hm⟩];exact e 59 rfl
  ·rw[if_neg (fun e=>hm e.2),if_pos hk];exact e 32 rfl
theorem Znv (l:List Int):fld fq [] (Zw C 0 l)=l.map Lib.itoa:=by
 cases l with
 |nil=>rfl
 |cons x l=>simp only[Zw];rw[if_neg (fun e=>by omega),if_neg (by omega)];simp only[List.nil_append];rw[ZlF Zm6,List.nil_append,Zj1 (by omega) (ZfP x)];rfl
def rq (r:Nat):Bool:=r==32||r==59
theorem Zr0 (c:UInt8):rq c.toNat=fq c:=by
 unfold rq fq;rw[Bool.eq_iff_iff];simp only[Bool.or_eq_true,beq_iff_eq];constructor
 ·rintro (h|h)
  ·exact .inl (UInt8.toNat_inj.1 h)
  ·exact .inr (UInt8.toNat_inj.1 h)
 ·rintro (rfl|rfl)<;>simp
def ZcC (L:List UInt8) (pos:Nat):Option Nat->List UInt8
 |none=>[]
 |some a=>(L.take pos).drop a
theorem Zcm (s:ByteArray) (ha: ∀ x∈s.data.toList,x.toNat<128): ∀ (f pos:Nat) (st:Option Nat) (acc:List (Nat×Nat)),s.size<=pos+f->pos<=s.size->(∀ a,st=some a->a<pos)->
  (Lib.closeSpans s (Lib.spansFromP rq s f pos st acc)).map (fun x=>(s.data.toList.take x.2).drop x.1)=acc.map (fun x=>(s.data.toList.take x.2).drop x.1)++fld fq (ZcC s.data.toList pos st) (s.data.toList.drop pos)
 |f,pos,st,acc,hf,hp,hst=>by
  have hlen:s.data.toList.length=s.size:=by rw[Array.length_toList];rfl
  by_cases hlt:pos<s.size
  ·match f,hf with
   |0,hf=>omega
   |f+1,hf=>
    have hlt':pos<s.data.toList.length:=(by rw[hlen];exact hlt);have hget:s.data.toList[pos]=s[pos]:=(by simp;rfl);have hasc:(s[pos]).toNat<128:=(by rw[←hget];exact ha _ (List.getElem_mem hlt'));have hdec:=decode_ascii s pos hlt hasc;have hdrop:s.data.toList.drop pos=s[pos]::s.data.toList.drop (pos+1):=(by rw[List.drop_eq_getElem_cons hlt',hget]);have hcs:s.data.toList[pos]? =some s[pos]:=(by rw[List.getElem?_eq_getElem hlt',hget]);simp only[Lib.spansFromP,hlt,if_true,hdec,Zr0];rw[hdrop];by_cases hq:fq s[pos]=true
    ·rw[if_pos hq];cases st with
     |none=>simp only;rw[Zcm s ha f (pos+1) none acc (by omega) (by omega) (fun a e=>by cases e)];simp only[fld,ZcC,hq];simp
     |some a=>have hap:=hst a rfl;have hne:ZcC s.data.toList pos (some a)≠[]:=(by unfold ZcC;intro e;have:=congrArg List.length e;simp at this;omega);simp only;rw[Zcm s ha f (pos+1) none (acc++[(a,pos)]) (by omega) (by omega) (fun a e=>by cases e)];simp only[fld,hq,if_true,if_neg hne];simp[ZcC]
    ·rw[if_neg hq];cases st with
     |none=>simp only;rw[Zcm s ha f (pos+1) (some pos) acc (by omega) (by omega) (fun a e=>by cases e;omega)];simp only[fld,hq];have:ZcC s.data.toList (pos+1) (some pos)=ZcC s.data.toList pos none++[s[pos]]:=(by show (s.data.toList.take (pos+1)).drop pos=[]++[s[pos]];rw[ZH hcs,List.drop_append_of_le_length (by simp;omega),List.drop_of_length_le (by simp;omega)]);rw[this];simp
     |some a=>have hap:=hst a rfl;simp only;rw[Zcm s ha f (pos+1) (some a) acc (by omega) (by omega) (fun b e=>by cases e;omega)];simp only[fld,hq];have:ZcC s.data.toList (pos+1) (some a)=ZcC s.data.toList pos (some a)++[s[pos]]:=(by show (s.data.toList.take (pos+1)).drop a=(s.data.toList.take pos).drop a++[s[pos]];rw[ZH hcs,List.drop_append_of_le_length (by simp;omega)]);rw[this];simp
  ·have hpe:pos=s.size:=(by omega);subst hpe;rw[Lib.spansFromP_end _ _ _ _ _ _ (by omega),List.drop_of_length_le (by omega)];cases st with
   |none=>simp[Lib.closeSpans,fld,ZcC]
   |some a=>have hap:=hst a rfl;have hne:ZcC s.data.toList s.size (some a)≠[]:=(by unfold ZcC;intro e;have:=congrArg List.length e;simp at this;omega);simp only[Lib.closeSpans,fld,if_neg hne,List.map_append,List.map_cons,List.map_nil];rfl
theorem ZjH (s:ByteArray) (ha: ∀ x∈s.data.toList,x.toNat<128):Lib.goFieldsP rq s=(fld fq [] s.data.toList).map Zb:=by
 have h:=Zcm s ha s.size 0 none [] (by omega) (by omega) (fun a e=>by cases e);simp only[List.map_nil,List.nil_append,ZcC,List.drop_zero] at h;unfold Lib.goFieldsP Lib.spansOfP;rw[←h,List.map_map];refine List.map_congr_left fun x _=> ?_;exact Zhc s x.1 x.2
theorem ZkO {p:Nat->Bool} {s x:ByteArray} (h:x∈Lib.goFieldsP p s):x.size<=s.size:=by
 unfold Lib.goFieldsP at h;obtain ⟨y, -,rfl⟩:=List.mem_map.1 h;rw[ByteArray.size_extract];omega
theorem Zeg (p:Nat->Bool) (s:ByteArray): ∀ (f pos:Nat) (st:Option Nat) (acc:List (Nat×Nat)),(Lib.spansFromP p s f pos st acc).1.length<=acc.length+f
 |0,_,_,acc=>by simp[Lib.spansFromP]
 |f+1,pos,st,acc=>by
  unfold Lib.spansFromP;split
  ·split
   ·split
    ·have:=Zeg p s f (pos+(Utf8.decode s pos).2) none (acc++[(‹Nat›,pos)]);simp at this ⊢;omega
    ·have:=Zeg p s f (pos+(Utf8.decode s pos).2) none acc;omega
   ·split
    ·have:=Zeg p s f (pos+(Utf8.decode s pos).2) (some ‹Nat›) acc;omega
    ·have:=Zeg p s f (pos+(Utf8.decode s pos).2) (some pos) acc;omega
  ·simp
theorem Zk9 (p:Nat->Bool) (s:ByteArray):(Lib.goFieldsP p s).length<=s.size+1:=by
 unfold Lib.goFieldsP Lib.spansOfP;rw[List.length_map];have h:=Zeg p s s.size 0 none [];unfold Lib.closeSpans;split
 ·simp at h ⊢;omega
 ·simp at h ⊢;omega
theorem Zjf {C:Nat}: ∀ {l:List Int} {k:Nat} {b:UInt8},b∈Zw C k l->b.toNat<128/\b≠91
 |[],_,_,h=>by simp[Zw] at h
 |x::l,k,b,h=>by
  simp only[Zw,List.mem_append] at h;rcases h with h|h|h
  ·split at h
   ·simp only[List.mem_singleton] at h;subst h;decide
   ·split at h
    ·simp only[List.mem_singleton] at h;subst h;decide
    ·simp at h
  ·have:=ZdC h;refine ⟨by omega,fun e=> ?_⟩;subst e;simp at this
  ·exact Zjf h
theorem Zqf (h:Ze ⟨R,C,cells⟩=true):
  Lib.cut (ZaL ⟨R,C,cells⟩) [91]=(Lib.itoa R++120::Lib.itoa C,Zw C 0 cells++[93],true)/\Lib.cut (Lib.itoa R++120::Lib.itoa C) [120]=(Lib.itoa R,Lib.itoa C,true):=by
 have hi: ∀ (n:Int) (c:UInt8),(c=91\/c=120)-> ∀ x∈Lib.itoa n,x≠c:=fun n c hc x hx e=>by have:=ZdC hx;subst e;rcases hc with rfl|rfl<;>simp at this
 refine ⟨?_,ZlN (hi _ _ (.inr rfl))⟩;rw[Zfm h];have e:ZbT R C++Zw C 0 cells++[93]=(Lib.itoa R++120::Lib.itoa C)++91::(Zw C 0 cells++[93]):=by simp[ZbT]
 rw[e];refine ZlN fun x hx=> ?_;rcases List.mem_append.1 hx with hx|hx
 ·exact hi _ _ (.inl rfl) x hx
 ·rcases List.mem_cons.1 hx with rfl|hx
  ·decide
  ·exact hi _ _ (.inl rfl) x hx

end Go.Proofs.YtjpcgofidijigaaGreatDoor
