/- Strings: equality of bytes; lists without repeats. -/
import Derived.Test.YtjpcgofidijigaaGreatDoorZRdc
import Derived.Lib.ItoaLen
import Derived.Lib.Join
import Derived.Laws.DeepStrings4
set_option maxHeartbeats 8000000
set_option maxRecDepth 100000
namespace Go.Proofs.YtjpcgofidijigaaGreatDoor
open Go.RowKit
open Lib (hid)
variable {F S T:Nat->Prop} {a:Option Addr} {cap k n:Nat} {l:List ByteArray} {m:Mat} {s:ByteArray} {v:Value} {w w':World}
theorem ZmB (bs:ByteArray): ∀ (n i:Nat) (r:List UInt8),bs.size-i=n->ByteArray.toList.loop bs i r=r.reverse++bs.data.toList.drop i:=by
 intro n;induction n with
 |zero=>intro i r h;unfold ByteArray.toList.loop;rw[if_neg (by omega),List.drop_of_length_le (by simp only[Array.length_toList];show bs.size<=i;omega)];simp
 |succ n ih=>
  intro i r h;unfold ByteArray.toList.loop;have hi:i<bs.data.toList.length:=by simp only[Array.length_toList];show i<bs.size;omega
  rw[if_pos (by omega),ih (i+1) _ (by omega),List.drop_eq_getElem_cons hi];have:bs.get! i=bs.data.toList[i]:=by show bs.data[i]! =_;rw[getElem!_pos bs.data i (by simpa using hi)];simp
  simp[this]
theorem toList_data (s:ByteArray):s.toList=s.data.toList:=by
 unfold ByteArray.toList;rw[ZmB s s.size 0 [] rfl];simp
theorem toList_inj {a b:ByteArray} (h:a.toList=b.toList):a=b:=by
 rw[toList_data,toList_data] at h;exact Go.WideShapes.bytes_inj h
theorem ZsQ (s t:ByteArray):(s.toList==t.toList)=decide (s=t):=by
 rw[Bool.eq_iff_iff,beq_iff_eq,decide_eq_true_eq];exact ⟨toList_inj,fun h=>by rw[h]⟩
theorem Zq2:s.toList.isEmpty=decide (s.size=0):=by
 have e:s.data.toList.length=s.size:=by rw[Array.length_toList];rfl
 rw[toList_data,Bool.eq_iff_iff,List.isEmpty_iff,decide_eq_true_eq, ←e,List.length_eq_zero_iff]
theorem ZlV {α:Type} [DecidableEq α]: ∀ {l r:List α},l.Nodup->(∀ x∈l,x∈r)->l.length<=r.length
 |[],_,_,_=>Nat.zero_le _
 |x::l,r,hn,hs=>by rw[List.nodup_cons] at hn;have hx:=hs x (by simp);have:=ZlV (l:=l) (r:=r.erase x) hn.2 (fun y hy=>(List.mem_erase_of_ne (fun e=>hn.1 (by rw[←e];exact hy))).2 (hs y (by simp[hy])));rw[List.length_erase_of_mem hx] at this;have h0:0<r.length:=List.length_pos_of_mem hx;simp;omega
def strs (l:List ByteArray):List Value:=l.map .string
@[simp] theorem Zs0 (l:List ByteArray):(strs l).length=l.length:=by simp[strs]
theorem ZhT (h:l[k]? =some s):(strs l)[k]? =some (.string s):=by simp[strs,h]
structure RdS (w:World) (S:Nat->Prop) (a:Option Addr) (n cap:Nat) (l:List ByteArray):Prop where
 row:Row w S 1 a n cap (strs l)
 len:l.length=n
theorem RdS.keep (h:RdS w S a n cap l) (hk:Keep T w w') (hST: ∀ b,b<w.heap.size->S b->T b):RdS w' S a n cap l:=⟨h.row.keep hk hST,h.len⟩
theorem RdS.grow (h:RdS w S a n cap l) (hk:Grow w w'):RdS w' S a n cap l:=h.keep hk fun _ _ _=>trivial
theorem RdS.at (h:RdS w S a n cap l) (hk:k<n):
  ∃ b off s,a=some ⟨b,off,none⟩/\l[k]? =some s/\S b/\b<w.heap.size/\w.cell? ⟨b,off+k,none⟩=some (.string s):=by
 have hlt:k<l.length:=by have:=h.len;omega
 have hk':l[k]? =some l[k]:=List.getElem?_eq_getElem hlt;obtain ⟨b,off,ha,hS,hc⟩:=h.row.addr (by intro e;have:=ZhT hk';rw[e] at this;simp at this);have h0:=hc _ _ (ZhT hk');exact ⟨b,off,l[k],ha,hk',hS,World.block_lt_of_cell? w _ h0,h0⟩
theorem Own.rdS {e:TypeId} (h:Own w e 1 a n cap (strs l)) (hS: ∀ g,blk a=some g->S g):RdS w S a n cap l:=⟨h.row hS,by simpa using h.len⟩
def VSS (w:World) (S:Nat->Prop) (v:Value) (l:List ByteArray):Prop:= ∃ a n c,v= .slice a n c/\RdS w S a n c l
def OSS (w:World) (F:Nat->Prop) (v:Value) (l:List ByteArray):Prop:= ∃ a n c,v= .slice a n c/\Own w 9 1 a n c (strs l)/\ ∀ g,blk a=some g->F g
theorem VSS.keep (h:VSS w S v l) (hk:Keep T w w') (hST: ∀ b,b<w.heap.size->S b->T b):VSS w' S v l:=by
 obtain ⟨a,n,c,rfl,h⟩:=h;exact ⟨a,n,c,rfl,h.keep hk hST⟩
theorem VSS.grow (h:VSS w S v l) (hk:Grow w w'):VSS w' S v l:=h.keep hk fun _ _ _=>trivial
theorem VSS.weak (h:VSS w S v l) (hST: ∀ b,b<w.heap.size->S b->T b):VSS w T v l:=by
 obtain ⟨a,n,c,rfl,h⟩:=h;exact ⟨a,n,c,rfl,h.row.weak hST,h.len⟩
theorem OSS.keep (h:OSS w F v l) (hk:Keep T w w') (hT: ∀ b,b<w.heap.size->F b->T b):OSS w' F v l:=by
 obtain ⟨a,n,c,rfl,h1,h3⟩:=h;exact ⟨a,n,c,rfl,h1.keep hk (fun g hg hlt=>hT g hlt (h3 g hg)),h3⟩
theorem OSS.grow (h:OSS w F v l) (hk:Grow w w'):OSS w' F v l:=h.keep hk fun _ _ _=>trivial
theorem OSS.weak {G:Nat->Prop} (h:OSS w F v l) (hF: ∀ b,b<w.heap.size->F b->G b):OSS w G v l:=by
 obtain ⟨a,n,c,rfl,h1,h3⟩:=h;exact ⟨a,n,c,rfl,h1,fun g hg=>hF g (h1.lt hg) (h3 g hg)⟩
theorem OSS.rd (h:OSS w F v l) (hS: ∀ b,F b->S b):VSS w S v l:=by
 obtain ⟨a,n,c,rfl,h1,h3⟩:=h;exact ⟨a,n,c,rfl,h1.rdS fun g hg=>hS g (h3 g hg)⟩
theorem T_strs:SlT Tryz.prog 43 9 (.string ⟨#[]⟩) 1 16:=SlT.mk' Tryz.underlying43 (by kernel_rfl) rfl
def ZcB (x:Int):List UInt8:=if x=0 then [] else Lib.decDigits x.natAbs
theorem ZfK {u:Nat} (h: ¬ u<10):Lib.decDigits u=Lib.decDigits (u/10)++[UInt8.ofNat (48+u%10)]:=by
 rw[Lib.decDigits,dif_neg h]
theorem ZnS {x:Int} (h:x≠0):ZcB x=ZcB (x.tdiv 10)++[UInt8.ofNat (48+x.natAbs%10)]:=by
 have e1:(x.tdiv 10).natAbs=x.natAbs/10:=Int.natAbs_tdiv x 10;unfold ZcB;rw[if_neg h];by_cases hs:x.natAbs<10
 ·have:x.tdiv 10=0:=by have:(x.tdiv 10).natAbs=0:=(by rw[e1];omega);omega
  rw[if_pos this,Lib.decDigits,dif_pos hs,Nat.mod_eq_of_lt hs];rfl
 ·have:x.tdiv 10≠0:=by intro e;have:(x.tdiv 10).natAbs=0:=(by rw[e];rfl);omega
  rw[if_neg this,ZfK hs,e1]
theorem ZoS (n:Int):Lib.itoa n=if n=0 then [48] else if n<0 then 45::ZcB n else ZcB n:=by
 unfold Lib.itoa ZcB;by_cases h:n=0
 ·subst h;rw[if_pos rfl,if_neg (by omega)];rw[Lib.decDigits,dif_pos (by decide)];rfl
 ·rw[if_neg h,if_neg h];by_cases hn:n<0
  ·rw[if_pos hn,if_pos hn]
  ·rw[if_neg hn,if_neg hn,show n.toNat=n.natAbs by omega]
theorem ZfP (n:Int):Lib.itoa n≠[]:=by
 have h: ∀ u,Lib.decDigits u≠[]:=fun u e=>by have h1:=Lib.decDigits_length u;have h2:=Lib.nDigits_pos u;rw[e] at h1;simp at h1;omega
 unfold Lib.itoa;split
 ·simp
 ·exact h _
theorem Zib (u:Nat) (h:u<=400000000):Lib.nDigits u<=9:=by
 by_cases h0:9<Lib.nDigits u
 ·exfalso;rcases Nat.eq_zero_or_pos u with rfl|hu
  ·rw[Lib.nDigits_small (by omega)] at h0;omega
  ·have key: ∀ k u:Nat,k<Lib.nDigits u->0<u->10^k<=u:=by
    intro k;induction k with
    |zero=>intro u _ h;rw[Nat.pow_zero];omega
    |succ k ih=>
     intro u hk hu;by_cases hs:u<10
     ·rw[Lib.nDigits_small hs] at hk;omega
     ·rw[Lib.nDigits_big hs] at hk;have:=ih (u/10) (by omega) (by omega);rw[Nat.pow_succ];omega
   have:=key 9 u h0 hu;omega
 ·omega
theorem Zan {n:Int} (h0: -400000000<=n) (h1:n<=400000000):(Lib.itoa n).length<=10:=by
 unfold Lib.itoa;split
 ·have:=Zib n.natAbs (by omega);simp[Lib.decDigits_length];omega
 ·have:=Zib n.toNat (by omega);rw[Lib.decDigits_length];omega
def ZbE (l:List Int):List UInt8:=Lib.join (l.map Lib.itoa) [32]
theorem ZoJ (xs:List (List UInt8)) (y sep:List UInt8):Lib.join (xs++[y]) sep=Lib.join xs sep++((if xs.length=0 then [] else sep)++y):=by
 cases xs with
 |nil=>simp[Lib.join_one,Lib.join_nil]
 |cons x r=>rw[List.cons_append,Lib.join_cons,Lib.join_cons];simp[Lib.joinTail]
theorem ZmX {b:Nat}: ∀ {xs:List (List UInt8)},(∀ x∈xs,x.length<=b)->Lib.lens xs<=xs.length*b
 |[],_=>by simp[Lib.lens]
 |x::r,hb=>by have h1:=ZmX (xs:=r) fun y hy=>hb y (by simp[hy]);have h2:=hb x (by simp);unfold Lib.lens at h1 ⊢;simp only[List.map_cons,List.sum_cons,List.length_cons,Nat.add_mul,Nat.one_mul];omega
theorem join_len_le {xs:List (List UInt8)} {sep:List UInt8} {b:Nat} (hb: ∀ x∈xs,x.length<=b):(Lib.join xs sep).length<=xs.length*b+xs.length*sep.length:=by
 cases xs with
 |nil=>simp[Lib.join_nil]
 |cons x r=>
  rw[Lib.join_length];have h1:=ZmX hb;have h2:sep.length*r.length<=(x::r).length*sep.length:=by rw[Nat.mul_comm];exact Nat.mul_le_mul_right _ (by simp)
  omega
def Zdz (C:Nat) (cells:List Int):Nat->List (List Int)
 |0=>[]
 |r+1=>Zdz C cells r++[(cells.drop (r*C)).take C]
theorem Zkk (C:Nat) (cells:List Int): ∀ r,(Zdz C cells r).length=r
 |0=>rfl
 |r+1=>by simp[Zdz,Zkk C cells r]
def ZdY (C:Nat) (cells:List Int) (r:Nat):List UInt8:=Lib.join ((Zdz C cells r).map ZbE) [59]
def Zw (C:Nat):Nat->List Int->List UInt8
 |_,[]=>[]
 |k,x::l=>(if 0<k/\k%C=0 then [59] else if 0<k then [32] else [])++(Lib.itoa x++Zw C (k+1) l)
theorem Zer (C:Nat): ∀ (l:List Int) (k:Nat) (r:List Int),Zw C k (l++r)=Zw C k l++Zw C (k+l.length) r
 |[],k,r=>by simp[Zw]
 |x::l,k,r=>by simp only[List.cons_append,Zw,Zer C l (k+1) r,List.length_cons,List.append_assoc];rw[show k+1+l.length=k+(l.length+1) by omega]
theorem Zi1 (C q:Nat): ∀ (l:List Int) (j:Nat),0<j->j+l.length<=C->Zw C (q*C+j) l=(l.map fun x=>32::Lib.itoa x).flatten
 |[],_,_,_=>by simp[Zw]
 |x::l,j,h0,h=>by
  have hj:j<C:=by simp at h;omega
  have e:(q*C+j)%C=j:=by rw[Nat.add_comm,Nat.add_mul_mod_self_right,Nat.mod_eq_of_lt hj]
  simp only[Zw,List.map_cons,List.flatten_cons];rw[if_neg (by omega),if_pos (by omega),show q*C+j+1=q*C+(j+1) by omega,Zi1 C q l (j+1) (by omega) (by simp at h;omega)];simp
theorem Zos (x:Int) (l:List Int):ZbE (x::l)=Lib.itoa x++(l.map fun x=>32::Lib.itoa x).flatten:=by
 unfold ZbE;rw[List.map_cons,Lib.join_cons];simp[Lib.joinTail,Function.comp_def]
theorem Zh3 {C:Nat} (hC:0<C) {cells:List Int}: ∀ r:Nat,r*C<=cells.length->Zw C 0 (cells.take (r*C))=ZdY C cells r
 |0,_=>by simp[Zw,ZdY,Zdz,Lib.join_nil]
 |r+1,h=>by
  have h1:r*C<=cells.length:=by rw[Nat.add_mul] at h;omega
  have hl:(cells.take (r*C)).length=r*C:=by simp;omega
  have e:cells.take ((r+1)*C)=cells.take (r*C)++(cells.drop (r*C)).take C:=by rw[Nat.add_mul,Nat.one_mul,List.take_add]
  rw[e,Zer,Zh3 hC r h1,hl,Nat.zero_add];unfold ZdY;rw[Zdz,List.map_append,List.map_cons,List.map_nil,ZoJ,List.length_map,Zkk];congr 1;have hlen:((cells.drop (r*C)).take C).length=C:=by rw[Nat.add_mul] at h;simp;omega
  match hx:(cells.drop (r*C)).take C,hlen with
  |[],hlen=>simp at hlen;omega
  |x::l,hlen=>
   rw[Zos,Zw];have:=Zi1 C r l 1 (by omega) (by simp at hlen;omega);rw[this];by_cases h0:r=0
   ·subst h0;simp
   ·have:0<r*C:=Nat.mul_pos (by omega) hC;rw[if_pos ⟨this,by simp⟩,if_neg h0]
def ZaL (m:Mat):List UInt8:=if Ze m=true then Lib.itoa m.rows++(120::(Lib.itoa m.cols++(91::(Zw m.cols.toNat 0 m.cells++[93])))) else []
theorem ZhK (h:Ze m=false):ZaL m=[]:=by unfold ZaL;rw[h];rfl
theorem Zis (h:Ze m=true):ZaL m=Lib.itoa m.rows++(120::(Lib.itoa m.cols++(91::(Zw m.cols.toNat 0 m.cells++[93])))):=by unfold ZaL;rw[if_pos h]
theorem Zdr {C:Nat}: ∀ {l:List Int} {k:Nat},(∀ x∈l, -400000000<=x/\x<=400000000)->(Zw C k l).length<=l.length*11
 |[],_,_=>by simp[Zw]
 |x::l,k,h=>by
  have h1:=Zdr (C:=C) (l:=l) (k:=k+1) fun y hy=>h y (by simp[hy]);have h2:=Zan (h x (by simp)).1 (h x (by simp)).2;have h3:(if 0<k/\k%C=0 then ([59]:List UInt8) else if 0<k then [32] else []).length<=1:=by split;simp;split<;>simp
  simp only[Zw,List.length_append,List.length_cons];omega
theorem Zcv (m:Mat):(ZaL m).length<=6400:=by
 unfold ZaL;split
 ·rename_i h;obtain ⟨R,C,hR,hC,h1,h2,h3,h4⟩:=Zn h;have a:=Zan (n:=m.rows) (by omega) (by omega);have b:=Zan (n:=m.cols) (by omega) (by omega);have c:=Zdr (C:=m.cols.toNat) (k:=0) h4;have d:R*C<=24*24:=Nat.mul_le_mul h1 h2;simp only[List.length_append,List.length_cons,List.length_nil];omega
 ·simp
abbrev Zb (l:List UInt8):ByteArray:=⟨l.toArray⟩
theorem ZG (l:List UInt8):(Zb l).size=l.length:=by show (l.toArray).size=_;simp
theorem Zq (a b:List UInt8):Zb a++Zb b=Zb (a++b):=by
 apply ByteArray.ext;show (Zb a++Zb b).data=_;rw[ByteArray.data_append];simp
theorem Zpj {e:ByteArray} {c:UInt8} (h:e=Zb [c]) (s:List UInt8):e++Zb s=Zb (c::s):=by rw[h,Zq];rfl
theorem ZpJ (x:Int) (h:I64 x):(ZcB x).length<=20:=by
 unfold ZcB;split
 ·simp
 ·rw[Lib.decDigits_length];exact Lib.nDigits_le20 _ (by unfold I64 at h;omega)
theorem Zk6: ∀ d:Fin 10,(ByteArray.extract ⟨#[48,49,50,51,52,53,54,55,56,57]⟩ d.val (d.val+1))=Zb [UInt8.ofNat (48+d.val)]:=by decide+kernel
def dgt (d:Nat):UInt8:=UInt8.ofNat (48+d)
theorem Zij {d:Nat} (h:d<10) (w:World):(Instr.slice 9 (.string ⟨#[48,49,50,51,52,53,54,55,56,57]⟩) (some (.int .i64 (d:Int))) (some (.int .i64 ((d:Int)+1))) none).run Tryz.prog w= .ok (.string (Zb [dgt d])) w:=by
 have e:=Zk6 ⟨d,h⟩;have hs:((ByteArray.size ⟨#[48,49,50,51,52,53,54,55,56,57]⟩:Nat):Int)=10:=rfl;rw[run_slice_string_if _ _ _ _ _ _ _ Tryz.underlying9,hs,if_pos (by omega),if_pos (by omega)];rw[show ((d:Int)).toNat=d by omega,show ((d:Int)+1).toNat=d+1 by omega,e];rfl
theorem ZaX (n:Int) (w:World) (hn:I64 n):Calls Tryz.prog 30 #[.int .i64 n] w fun e w'=>e= .returned (.string (Zb (Lib.itoa n)))/\w=w':=by
 have hI:=hn;unfold I64 at hn;go_enter Tryz.func30,Tryz.ntmps30;go_wp2;go_loop [3,4,5] (fun sv xv _=> ∃ (s:List UInt8) (x:Int),sv= .string (Zb s)/\xv= .int .i64 x/\I64 x/\ZcB x++s=ZcB n) (fun _ xv _=>(intOf xv).natAbs);case atStart=>exact ⟨[],n,rfl,rfl,hI,by simp⟩
 case round=>
  obtain ⟨s,x,rfl,rfl,hx,he⟩:=hrel;have hl:s.length<=20:=by have h1:=ZpJ n hI;rw[←he] at h1;simp at h1;omega
  have He:=hid he;clear he;have hIx:=hx;unfold I64 at hx;by_cases h0:x=0
  ·subst h0;have Hi:=hid (ZoS n);by_cases hn0:n=0
   ·subst hn0;go_wp2;go_ret;refine ⟨?_,rfl⟩;rw[Hi.out];rfl
   ·have e0:ZcB 0++s=s:=rfl;rw[e0] at He;by_cases hn1:n<0
    ·go_wp2;go_ret;refine ⟨?_,rfl⟩;rw[Hi.out,if_neg hn0,if_pos hn1, ←He.out];show Ending.returned (Value.string (Zb [45]++Zb s))=_;rw[Zq];rfl
    ·go_wp2;go_ret;refine ⟨?_,rfl⟩;rw[Hi.out,if_neg hn0,if_neg (by omega), ←He.out];rfl
  ·have hstep:=ZnS h0;obtain ⟨d,hd⟩: ∃ d:Nat,x.natAbs%10=d:=⟨x.natAbs%10,rfl⟩;have hdl:d<10:=(by omega);have Hst:=hid (show ZcB (x.tdiv 10)++(dgt d::s)=ZcB n by rw[←He.out,hstep,hd];simp[dgt]);have Hdg:=hid (Zk6 ⟨d,hdl⟩);have htq:I64 (x.tdiv 10)/\(x.tdiv 10).natAbs<x.natAbs:=(by have e1:(x.tdiv 10).natAbs=x.natAbs/10:=Int.natAbs_tdiv x 10;unfold I64;omega);have Htq:=hid htq;clear hstep htq;by_cases hneg:x<0
   ·have hm:x.tmod 10= -(d:Int):=by
     have e1:(x.tmod 10).natAbs=x.natAbs%10:=Int.natAbs_tmod x 10;have e2:x.tmod 10<=0:=by
      rcases Int.lt_or_le 0 (x.tmod 10) with h|h
      ·exfalso;have:=Int.tmod_nonneg (a:= -x) 10 (by omega);rw[Int.neg_tmod] at this;omega
      ·exact h
     omega
    clear hd;rcases Nat.eq_zero_or_pos d with hd0|hd0
    ·subst hd0;have hm0:x.tmod 10=0:=(by rw[hm];rfl);clear hm;go_wp2;refine ⟨⟨_,_,congrArg Value.string (Zpj Hdg.out s),rfl,Htq.out.1,Hst.out⟩,Htq.out.2⟩
    ·have hm0:x.tmod 10<0:=(by omega);have hsl:=Zij hdl;go_wp2;refine ⟨⟨_,_,congrArg Value.string (Zq _ _),rfl,Htq.out.1,Hst.out⟩,Htq.out.2⟩
   ·have hm:x%10=(d:Int):=(by omega);clear hd;have hsl:=Zij hdl;have hm0:decide ((d:Int)<0)=false:=(by simp);have e10:x.tdiv 10=x/10:=Int.tdiv_eq_ediv_of_nonneg (by omega);rw[e10] at Htq Hst;clear e10;go_wp2;refine ⟨⟨_,_,congrArg Value.string (Zq _ _),rfl,Htq.out.1,Hst.out⟩,Htq.out.2⟩
def opWords:List (List UInt8):=[[],[97,100,100],[109,117,108],[116,117,114,110],[100,101,116],[104,101,114,109,105,116,101],[115,109,105,116,104],[107,101,114,110,101,108],[103,114,97,109],[114,101,100,117,99,101]]
def opw (op:Int):List UInt8:=if 1<=op/\op<=9 then opWords.getD op.toNat [] else []
theorem ZsG {op:Int} (h: ¬ (1<=op/\op<=9)):opw op=[]:=by unfold opw;rw[if_neg h]
theorem ZjR (op:Int):(opw op).length<=7:=by
 unfold opw;split
 ·rename_i h;obtain ⟨k,rfl⟩:=Int.eq_ofNat_of_zero_le (show 0<=op by omega);have hk:k<10:=by omega
  match k,hk with
  |0,_|1,_|2,_|3,_|4,_|5,_|6,_|7,_|8,_|9,_=>decide
 ·simp
theorem ZrF (op:Int) (w:World) (h:I64 op):Calls Tryz.prog 24 #[.int .i64 op] w fun e w'=>e= .returned (.string (Zb (opw op)))/\Grow w w':=by
 unfold I64 at h;by_cases hin:1<=op/\op<=9
 ·have q1:inB 1 1 9=true:=rfl;have q2:inB 2 1 9=true:=rfl;have q3:inB 3 1 9=true:=rfl;have q4:inB 4 1 9=true:=rfl;have q5:inB 5 1 9=true:=rfl;have q6:inB 6 1 9=true:=rfl;have q7:inB 7 1 9=true:=rfl;have q8:inB 8 1 9=true:=rfl;have q9:inB 9 1 9=true:=rfl;obtain ⟨k,rfl⟩:=Int.eq_ofNat_of_zero_le (show 0<=op by omega);have hk:k<10:=by omega
  have hk0:0<k:=by omega
  clear hin h
  match k,hk,hk0 with
  |1,_,_|2,_,_|3,_,_|4,_,_|5,_,_|6,_,_|7,_,_|8,_,_|9,_,_=>go_enter Tryz.func24,Tryz.ntmps24;go_wp2_with fail;refine (ZbX _ _ _ _).mono ?_;rintro e w' ⟨rfl,rfl⟩;go_wp2;go_ret;exact ⟨rfl,(Grow.refl _).alloc _ _⟩
 ·have hI:inB op 1 9=false:=by unfold inB;simp;omega
  have Hz:=hid (ZsG hin);clear hin;go_enter Tryz.func24,Tryz.ntmps24;go_wp2_with fail;refine (ZbX _ _ _ _).mono ?_;rw[hI];rintro e w' ⟨rfl,rfl⟩;clear hI;go_wp2;go_ret;exact ⟨by rw[Hz.out];rfl,Grow.refl _⟩
theorem ZgJ (op:Int) (w:World) (h:0<=op/\op<=9):Calls Tryz.prog 34 #[.int .i64 op] w fun e w'=>e= .returned (.string (Zb (opw op)))/\Grow w w':=by
 obtain ⟨k,rfl⟩:=Int.eq_ofNat_of_zero_le h.1;have hk:k<10:=by omega
 clear h
 match k,hk with
 |0,_|1,_|2,_|3,_|4,_|5,_|6,_|7,_|8,_|9,_=>go_enter Tryz.func34,Tryz.ntmps34;go_wp2;go_ret;exact ⟨rfl,(Grow.refl _).alloc _ _⟩
def Zp (p:UInt8->Bool) (cur:List UInt8):List UInt8->List (List UInt8)
 |[]=>[cur]
 |c::r=>if p c=true then cur::Zp p [] r else Zp p (cur++[c]) r
theorem Zb5 (p:UInt8->Bool): ∀ (l cur:List UInt8),(Zp p cur l).length<=l.length+1/\1<=(Zp p cur l).length
 |[],cur=>by simp[Zp]
 |c::r,cur=>by
  unfold Zp;split
  ·have:=Zb5 p r [];simp;omega
  ·have:=Zb5 p r (cur++[c]);simp;omega
theorem ZcY {p:UInt8->Bool} {c:UInt8} {r:List UInt8} (hc:p c=true): ∀ {a cur:List UInt8},(∀ x∈a,p x=false)->Zp p cur (a++c::r)=(cur++a)::Zp p [] r
 |[],cur,_=>by simp[Zp,hc]
 |x::a,cur,h=>by have hx:=h x (by simp);simp only[List.cons_append,Zp,hx];rw[if_neg (by simp),ZcY hc (a:=a) (cur:=cur++[x]) fun y hy=>h y (by simp[hy])];simp
theorem ZgV {p:UInt8->Bool}: ∀ {a cur:List UInt8},(∀ x∈a,p x=false)->Zp p cur a=[cur++a]
 |[],cur,_=>by simp[Zp]
 |x::a,cur,h=>by have hx:=h x (by simp);simp only[Zp,hx];rw[if_neg (by simp),ZgV (a:=a) (cur:=cur++[x]) fun y hy=>h y (by simp[hy])];simp
theorem Zc0 {p:UInt8->Bool}: ∀ {l cur:List UInt8} {x:List UInt8},x∈Zp p cur l->x.length<=cur.length+l.length
 |[],cur,x,h=>by simp[Zp] at h;subst h;simp
 |c::r,cur,x,h=>by
  unfold Zp at h;split at h
  ·rcases List.mem_cons.1 h with rfl|h
   ·simp
   ·have:=Zc0 h;simp at *;omega
  ·have:=Zc0 h;simp at *;omega
theorem Zhc (s:ByteArray) (a b:Nat):s.extract a b=Zb ((s.data.toList.take b).drop a):=by
 apply ByteArray.ext;show (s.extract a b).data=((s.data.toList.take b).drop a).toArray;rw[ByteArray.data_extract];apply Array.ext';simp[Array.toList_extract,List.drop_take]

end Go.Proofs.YtjpcgofidijigaaGreatDoor
