/- Numbers, lists and matrices as text: the plain functions. -/
import Derived.Test.YtgjefeiddfjjnaaGreatDoorZIsMat
import Derived.Lib.ItoaLen
import Derived.Lib.Join
import Derived.Laws.DeepStrings4
set_option maxHeartbeats 8000000
set_option maxRecDepth 100000
namespace Go.Proofs.YtgjefeiddfjjnaaGreatDoor
open Go.RowKit
open Lib (hid)
open _root_.ByteArray renaming data_append->NP,data_extract->Rc,ext->NN,extract->QZ,size->Ra,toList->Rb
open Int renaming eq_ofNat_of_zero_le->LA,natAbs_tdiv->Na
open Lib renaming decDigits->KN,decDigits_length->MF,itoa->JK,join->Lr,joinTail->Pb,join_cons->NL,join_nil->MG,lens->NM,nDigits->NK,nDigits_small->OZ
open List renaming cons_append->Kf,length_cons->Kw,map_cons->JV
open Nat renaming add_mul->Ki,eq_zero_or_pos->Lb,mod_eq_of_lt->Nb,one_mul->LC
open Go.Proofs.Tryz renaming func126->Pc,ntmps126->Pd,prog->JG
open Go.Proofs.Tryz
variable {F S T:Nat->Prop} {a:Option Addr} {cap k n:Nat} {l:List ByteArray} {m:Mat} {s:ByteArray} {v:Value} {w w':World}
def ZdM (x:Int):List UInt8:=if x=0 then [] else KN x.natAbs
theorem Zg8 {u:Nat} (h: ¬ u<10):KN u=KN (u/10)++[UInt8.ofNat (48+u%10)]:=by
 rw[KN,dif_neg h]
theorem Zqk {x:Int} (h:x≠0):ZdM x=ZdM (x.tdiv 10)++[UInt8.ofNat (48+x.natAbs%10)]:=by
 have b:(x.tdiv 10).natAbs=x.natAbs/10:=Na x 10;unfold ZdM;rw[if_neg h];by_cases a:x.natAbs<10
 ·have:x.tdiv 10=0:=by have:(x.tdiv 10).natAbs=0:=(by rw[b];omega);omega
  rw[if_pos this,KN,dif_pos a,Nb a];rfl
 ·have:x.tdiv 10≠0:=by intro e;have:(x.tdiv 10).natAbs=0:=ξ;omega
  rw[if_neg this,Zg8 a,b]
theorem ZsU (n:Int):JK n=if n=0 then [48] else if n<0 then 45::ZdM n else ZdM n:=by
 unfold JK ZdM;by_cases h:n=0
 ·subst h;rw[if_pos rfl,if_neg I];rw[KN,dif_pos Φ];rfl
 ·rw[if_neg h,if_neg h];by_cases a:n<0
  ·rw[if_pos a,if_pos a]
  ·rw[if_neg a,if_neg a,show n.toNat=n.natAbs by omega]
theorem Zhl (n:Int):JK n≠[]:=by
 have h: ∀ u,KN u≠[]:=fun u e=>by have a:=MF u;have b:=Lib.nDigits_pos u;rw[e] at a;simp at a;omega
 unfold JK;split
 ·simp
 ·exact h _
theorem ZjF (u:Nat) (h:u<=400000000):NK u<=9:=by
 by_cases b:9<NK u
 ·exfalso;rcases Lb u with rfl|c
  ·rw[OZ I] at b;omega
  ·have a: ∀ k u:Nat,k<NK u->0<u->10^k<=u:=by
    intro k;induction k with
    |zero=>intro u _ h;rw[Nat.pow_zero];omega
    |succ k f=>
     intro u d c;by_cases e:u<10
     ·rw[OZ e] at d;omega
     ·rw[Lib.nDigits_big e] at d;have:=f (u/10) I I;rw[Nat.pow_succ];omega
   have:=a 9 u b c;omega
 ·omega
theorem ZaK {n:Int} (h0: -400000000<=n) (h1:n<=400000000):(JK n).length<=10:=by
 unfold JK;split
 ·have:=ZjF n.natAbs I;simp[MF];omega
 ·have:=ZjF n.toNat I;rw[MF];omega
def Zca (l:List Int):List UInt8:=Lr (l.map JK) [32]
theorem ZsC (xs:List (List UInt8)) (y sep:List UInt8):Lr (xs++[y]) sep=Lr xs sep++((if xs.length=0 then [] else sep)++y):=by
 cases xs with
 |nil=>simp[Lib.join_one,MG]
 |cons x r=>rw[Kf,NL,NL];simp[Pb]
theorem ZpE {b:Nat}: ∀ {xs:List (List UInt8)},(∀ x∈xs,x.length<=b)->NM xs<=xs.length*b
 |[],_=>by simp[NM]
 |x::r,hb=>by have h1:=ZpE (xs:=r) fun y hy=>hb y CJ;have h2:=hb x Θ;unfold NM at h1 ⊢;simp only[JV,List.sum_cons,Kw,Ki,LC];omega
theorem join_len_le {xs:List (List UInt8)} {sep:List UInt8} {b:Nat} (hb: ∀ x∈xs,x.length<=b):(Lr xs sep).length<=xs.length*b+xs.length*sep.length:=by
 cases xs with
 |nil=>simp[MG]
 |cons x r=>
  rw[Lib.join_length];have a:=ZpE hb;have c:sep.length*r.length<=(x::r).length*sep.length:=by rw[Nat.mul_comm];exact Nat.mul_le_mul_right _ Θ
  omega
def ZeK (C:Nat) (cells:List Int):Nat->List (List Int)
 |0=>[]
 |r+1=>ZeK C cells r++[(cells.drop (r*C)).take C]
theorem Zmb (C:Nat) (cells:List Int): ∀ r,(ZeK C cells r).length=r
 |0=>rfl
 |r+1=>by simp[ZeK,Zmb C cells r]
def Zfe (C:Nat) (cells:List Int) (r:Nat):List UInt8:=Lr ((ZeK C cells r).map Zca) [59]
def ZE (C:Nat):Nat->List Int->List UInt8
 |_,[]=>[]
 |k,x::l=>(if 0<k/\k%C=0 then [59] else if 0<k then [32] else [])++(JK x++ZE C (k+1) l)
theorem ZfM (C:Nat): ∀ (l:List Int) (k:Nat) (r:List Int),ZE C k (l++r)=ZE C k l++ZE C (k+l.length) r
 |[],k,r=>by simp[ZE]
 |x::l,k,r=>by simp only[Kf,ZE,ZfM C l (k+1) r,Kw,List.append_assoc];rw[show k+1+l.length=k+(l.length+1) by omega]
theorem Zkx (C q:Nat): ∀ (l:List Int) (j:Nat),0<j->j+l.length<=C->ZE C (q*C+j) l=(l.map fun x=>32::JK x).flatten
 |[],_,_,_=>by simp[ZE]
 |x::l,j,h0,h=>by
  have hj:j<C:=by simp at h;omega
  have e:(q*C+j)%C=j:=by rw[Nat.add_comm,Nat.add_mul_mod_self_right,Nb hj]
  simp only[ZE,JV,List.flatten_cons];rw[if_neg I,if_pos I,show q*C+j+1=q*C+(j+1) by omega,Zkx C q l (j+1) I (by simp at h;omega)];simp
theorem Zmv (x:Int) (l:List Int):Zca (x::l)=JK x++(l.map fun x=>32::JK x).flatten:=by
 unfold Zca;rw[JV,NL];simp[Pb,Function.comp_def]
theorem ZjM {C:Nat} (hC:0<C) {cells:List Int}: ∀ r:Nat,r*C<=cells.length->ZE C 0 (cells.take (r*C))=Zfe C cells r
 |0,_=>by simp[ZE,Zfe,ZeK,MG]
 |r+1,h=>by
  have h1:r*C<=cells.length:=by rw[Ki] at h;omega
  have hl:(cells.take (r*C)).length=r*C:=Ψ
  have e:cells.take ((r+1)*C)=cells.take (r*C)++(cells.drop (r*C)).take C:=by rw[Ki,LC,List.take_add]
  rw[e,ZfM,ZjM hC r h1,hl,Nat.zero_add];unfold Zfe;rw[ZeK,List.map_append,JV,List.map_nil,ZsC,List.length_map,Zmb];congr 1;have hlen:((cells.drop (r*C)).take C).length=C:=by rw[Ki] at h;simp;omega
  match hx:(cells.drop (r*C)).take C,hlen with
  |[],hlen=>simp at hlen;omega
  |x::l,hlen=>
   rw[Zmv,ZE];have:=Zkx C r l 1 I (by simp at hlen;omega);rw[this];by_cases h0:r=0
   ·subst h0;simp
   ·have:0<r*C:=Nat.mul_pos I hC;rw[if_pos ⟨this,Θ⟩,if_neg h0]
def ZaG (m:Mat):List UInt8:=if Zd m=true then JK m.rows++(120::(JK m.cols++(91::(ZE m.cols.toNat 0 m.cells++[93])))) else []
theorem Zhp (h:Zd m=false):ZaG m=[]:=by unfold ZaG;rw[h];rfl
theorem ZhM (h:Zd m=true):ZaG m=JK m.rows++(120::(JK m.cols++(91::(ZE m.cols.toNat 0 m.cells++[93])))):=by unfold ZaG;rw[if_pos h]
theorem ZeN {C:Nat}: ∀ {l:List Int} {k:Nat},(∀ x∈l, -400000000<=x/\x<=400000000)->(ZE C k l).length<=l.length*11
 |[],_,_=>by simp[ZE]
 |x::l,k,h=>by
  have h1:=ZeN (C:=C) (l:=l) (k:=k+1) fun y hy=>h y CJ;have h2:=ZaK (h x Θ).1 (h x Θ).2;have h3:(if 0<k/\k%C=0 then ([59]:List UInt8) else if 0<k then [32] else []).length<=1:=by split;simp;split<;>simp
  simp only[ZE,List.length_append,Kw];omega
theorem Zdy (m:Mat):(ZaG m).length<=6400:=by
 unfold ZaG;split
 ·rename_i h;obtain ⟨R,C,i,j,e,f,l,g⟩:=Zl h;have a:=ZaK (n:=m.rows) I I;have b:=ZaK (n:=m.cols) I I;have c:=ZeN (C:=m.cols.toNat) (k:=0) g;have d:R*C<=24*24:=Nat.mul_le_mul e f;exact IA
 ·simp
abbrev Za (l:List UInt8):ByteArray:=⟨l.toArray⟩
theorem Zy (l:List UInt8):(Za l).size=l.length:=by show (l.toArray).size=_;simp
theorem Zo (a b:List UInt8):Za a++Za b=Za (a++b):=by
 apply NN;show (Za a++Za b).data=_;rw[NP];simp
theorem ZrZ {e:ByteArray} {c:UInt8} (h:e=Za [c]) (s:List UInt8):e++Za s=Za (c::s):=by rw[h,Zo];rfl
theorem ZrA (x:Int) (h:I64 x):(ZdM x).length<=20:=by
 unfold ZdM;split
 ·simp
 ·rw[MF];exact Lib.nDigits_le20 _ (by unfold I64 at h;omega)
theorem Zny: ∀ d:Fin 10,(QZ ⟨#[48,49,50,51,52,53,54,55,56,57]⟩ d.val (d.val+1))=Za [UInt8.ofNat (48+d.val)]:=Aj
def dgt (d:Nat):UInt8:=UInt8.ofNat (48+d)
theorem ZjH {d:Nat} (h:d<10) (w:World):(Instr.slice 9 (.string ⟨#[48,49,50,51,52,53,54,55,56,57]⟩) (some (.int .i64 (d:Int))) (some (.int .i64 ((d:Int)+1))) none).run JG w= .ok (.string (Za [dgt d])) w:=by
 have e:=Zny ⟨d,h⟩;have a:((Ra ⟨#[48,49,50,51,52,53,54,55,56,57]⟩:Nat):Int)=10:=rfl;rw[run_slice_string_if _ _ _ _ _ _ _ underlying9,a,if_pos I,if_pos I];rw[show ((d:Int)).toNat=d by omega,show ((d:Int)+1).toNat=d+1 by omega,e];rfl
theorem Zbq (n:Int) (w:World) (hn:I64 n):Calls JG 80 #[.int .i64 n] w fun e w'=>e= .returned (.string (Za (JK n)))/\w=w':=by
 have z:=hn;unfold I64 at hn;go_enter func80,ntmps80;go_wp2;go_loop [3,4,5] (fun E m _=> ∃ (s:List UInt8) (x:Int),E= .string (Za s)/\m= .int .i64 x/\I64 x/\ZdM x++s=ZdM n) (fun _ m _=>(intOf m).natAbs);case atStart=>exact ⟨[],n,rfl,rfl,z,Θ⟩
 case round=>
  obtain ⟨s,x,rfl,rfl,A,o⟩:=hrel;have J:s.length<=20:=by have B:=ZrA n z;rw[←o] at B;simp at B;omega
  have l:=hid o;clear o;have F:=A;unfold I64 at A;by_cases C:x=0
  ·subst C;have p:=hid (ZsU n);by_cases c:n=0
   ·subst c;go_wp2;go_ret;refine ⟨?_,rfl⟩;rw[p.out];rfl
   ·have G:ZdM 0++s=s:=rfl;rw[G] at l;by_cases q:n<0
    ·go_wp2;go_ret;refine ⟨?_,rfl⟩;rw[p.out,if_neg c,if_pos q, ←l.out];show Ending.returned (Value.string (Za [45]++Za s))=_;rw[Zo];rfl
    ·go_wp2;go_ret;refine ⟨?_,rfl⟩;rw[p.out,if_neg c,if_neg I, ←l.out];rfl
  ·have b:=Zqk C;obtain ⟨d,r⟩: ∃ d:Nat,x.natAbs%10=d:=⟨x.natAbs%10,rfl⟩;have f:d<10:=I;have Hst:=hid (show ZdM (x.tdiv 10)++(dgt d::s)=ZdM n by rw[←l.out,b,r];simp[dgt]);have t:=hid (Zny ⟨d,f⟩);have g:I64 (x.tdiv 10)/\(x.tdiv 10).natAbs<x.natAbs:=(by have H:(x.tdiv 10).natAbs=x.natAbs/10:=Na x 10;unfold I64;omega);have Htq:=hid g;clear b g;by_cases D:x<0
   ·have v:x.tmod 10= -(d:Int):=by
     have H:(x.tmod 10).natAbs=x.natAbs%10:=Int.natAbs_tmod x 10;have L:x.tmod 10<=0:=by
      rcases Int.lt_or_le 0 (x.tmod 10) with h|h
      ·exfalso;have:=Int.tmod_nonneg (a:= -x) 10 I;rw[Int.neg_tmod] at this;omega
      ·exact h
     omega
    clear r;rcases Lb d with i|i
    ·subst i;have j:x.tmod 10=0:=(by rw[v];rfl);clear v;go_wp2;refine ⟨⟨_,_,congrArg Value.string (ZrZ t.out s),rfl,Htq.out.1,Hst.out⟩,Htq.out.2⟩
    ·have j:x.tmod 10<0:=I;have y:=ZjH f;go_wp2;exact Jm
   ·have v:x%10=(d:Int):=I;clear r;have y:=ZjH f;have j:decide ((d:Int)<0)=false:=Θ;have k:x.tdiv 10=x/10:=Int.tdiv_eq_ediv_of_nonneg I;rw[k] at Htq Hst;clear k;go_wp2;exact Jm
theorem ZoT (bs:ByteArray): ∀ (n i:Nat) (r:List UInt8),bs.size-i=n->Rb.loop bs i r=r.reverse++bs.data.toList.drop i:=by
 intro n;induction n with
 |zero=>intro i r h;unfold Rb.loop;rw[if_neg I,List.drop_of_length_le (by simp only[Array.length_toList];show bs.size<=i;omega)];simp
 |succ n a=>
  intro i r h;unfold Rb.loop;have hi:i<bs.data.toList.length:=by simp only[Array.length_toList];show i<bs.size;omega
  rw[if_pos I,a (i+1) _ I,List.drop_eq_getElem_cons hi];have:bs.get! i=bs.data.toList[i]:=by show bs.data[i]! =_;rw[getElem!_pos bs.data i Fy];simp
  simp[this]
theorem toList_data (s:ByteArray):s.toList=s.data.toList:=by
 unfold Rb;rw[ZoT s s.size 0 [] rfl];simp
theorem toList_inj {a b:ByteArray} (h:a.toList=b.toList):a=b:=by
 rw[toList_data,toList_data] at h;exact Go.WideShapes.bytes_inj h
theorem Zwl (s t:ByteArray):(s.toList==t.toList)=decide (s=t):=by
 rw[Bool.eq_iff_iff,beq_iff_eq,decide_eq_true_eq];exact ⟨toList_inj,fun h=>by rw[h]⟩
theorem ZtK:s.toList.isEmpty=decide (s.size=0):=by
 have e:s.data.toList.length=s.size:=CX
 rw[toList_data,Bool.eq_iff_iff,List.isEmpty_iff,decide_eq_true_eq, ←e,List.length_eq_zero_iff]
theorem ZnZ {α:Type} [DecidableEq α]: ∀ {l r:List α},l.Nodup->(∀ x∈l,x∈r)->l.length<=r.length
 |[],_,_,_=>Nat.zero_le _
 |x::l,r,hn,hs=>by rw[List.nodup_cons] at hn;have hx:=hs x Θ;have:=ZnZ (l:=l) (r:=r.erase x) hn.2 (fun y hy=>(List.mem_erase_of_ne (fun e=>hn.1 (by rw[←e];exact hy))).2 (hs y CJ));rw[List.length_erase_of_mem hx] at this;have h0:0<r.length:=List.length_pos_of_mem hx;simp;omega
def strs (l:List ByteArray):List Value:=l.map .string
@[simp] theorem Zwv (l:List ByteArray):(strs l).length=l.length:=by simp[strs]
theorem Zjr (h:l[k]? =some s):(strs l)[k]? =some (.string s):=by simp[strs,h]
theorem ZtN (l:List ByteArray): ∀ u∈strs l,u.oneCell'=true:=by
 intro u a;obtain ⟨s,_,rfl⟩:=List.mem_map.1 a;rfl
structure RdS (w:World) (S:Nat->Prop) (a:Option Addr) (n cap:Nat) (l:List ByteArray):Prop where
 row:Row w S 1 a n cap (strs l)
 len:l.length=n
theorem RdS.keep (h:RdS w S a n cap l) (hk:Keep T w w') (hST: ∀ b,b<w.heap.size->S b->T b):RdS w' S a n cap l:=⟨h.row.keep hk hST,h.len⟩
theorem RdS.grow (h:RdS w S a n cap l) (hk:Grow w w'):RdS w' S a n cap l:=h.keep hk fun _ _ _=>trivial
theorem RdS.at (h:RdS w S a n cap l) (hk:k<n):
  ∃ b off s,a=some ⟨b,off,none⟩/\l[k]? =some s/\S b/\b<w.heap.size/\w.cell? ⟨b,off+k,none⟩=some (.string s):=by
 have d:k<l.length:=by have:=h.len;omega
 have c:l[k]? =some l[k]:=List.getElem?_eq_getElem d;obtain ⟨b,off,g,i,j⟩:=h.row.addr (by intro e;have:=Zjr c;rw[e] at this;simp at this);have f:=j _ _ (Zjr c);exact ⟨b,off,l[k],g,c,i,World.block_lt_of_cell? w _ f,f⟩
theorem Own.rdS {e:TypeId} (h:Own w e 1 a n cap (strs l)) (hS: ∀ g,blk a=some g->S g):RdS w S a n cap l:=⟨h.row hS,Ao⟩
def VSS (w:World) (S:Nat->Prop) (v:Value) (l:List ByteArray):Prop:= ∃ a n c,v= .slice a n c/\RdS w S a n c l
def OSS (w:World) (F:Nat->Prop) (v:Value) (l:List ByteArray):Prop:= ∃ a n c,v= .slice a n c/\Own w 9 1 a n c (strs l)/\ ∀ g,blk a=some g->F g
theorem VSS.keep (h:VSS w S v l) (hk:Keep T w w') (hST: ∀ b,b<w.heap.size->S b->T b):VSS w' S v l:=by
 exact Ih
theorem VSS.grow (h:VSS w S v l) (hk:Grow w w'):VSS w' S v l:=h.keep hk fun _ _ _=>trivial
theorem VSS.weak (h:VSS w S v l) (hST: ∀ b,b<w.heap.size->S b->T b):VSS w T v l:=by
 obtain ⟨a,n,c,rfl,h⟩:=h;exact ⟨a,n,c,rfl,h.row.weak hST,h.len⟩
theorem OSS.keep (h:OSS w F v l) (hk:Keep T w w') (hT: ∀ b,b<w.heap.size->F b->T b):OSS w' F v l:=by
 obtain ⟨a,n,c,rfl,f,e⟩:=h;exact ⟨a,n,c,rfl,f.keep hk (fun g i d=>hT g d (e g i)),e⟩
theorem OSS.grow (h:OSS w F v l) (hk:Grow w w'):OSS w' F v l:=h.keep hk fun _ _ _=>trivial
theorem OSS.weak {G:Nat->Prop} (h:OSS w F v l) (hF: ∀ b,b<w.heap.size->F b->G b):OSS w G v l:=by
 obtain ⟨a,n,c,rfl,d,f⟩:=h;exact ⟨a,n,c,rfl,d,fun g e=>hF g (d.lt e) (f g e)⟩
theorem OSS.rd (h:OSS w F v l) (hS: ∀ b,F b->S b):VSS w S v l:=by
 obtain ⟨a,n,c,rfl,d,e⟩:=h;exact ⟨a,n,c,rfl,d.rdS fun g f=>hS g (e g f)⟩
theorem T_strs:SlT JG 49 9 (.string ⟨#[]⟩) 1 16:=SlT.mk' underlying49 Ξ rfl
def opWords:List (List UInt8):=[[],[97,100,100],[109,117,108],[116,117,114,110],[100,101,116],[104,101,114,109,105,116,101],[115,109,105,116,104],[107,101,114,110,101,108],[103,114,97,109],[114,101,100,117,99,101]]
def opw (op:Int):List UInt8:=if 1<=op/\op<=9 then opWords.getD op.toNat [] else []
theorem ZvQ {op:Int} (h: ¬ (1<=op/\op<=9)):opw op=[]:=by unfold opw;rw[if_neg h]
theorem Zlm (op:Int):(opw op).length<=7:=by
 unfold opw;split
 ·rename_i h;obtain ⟨k,rfl⟩:=LA (show 0<=op by omega);have a:k<10:=I
  match k,a with
  |0,_|1,_|2,_|3,_|4,_|5,_|6,_|7,_|8,_|9,_=>decide
 ·simp
theorem ZvD (op:Int) (w:World) (h:I64 op):Calls JG 126 #[.int .i64 op] w fun e w'=>e= .returned (.string (Za (opw op)))/\Grow w w':=by
 unfold I64 at h;by_cases a:1<=op/\op<=9
 ·have f:inB 1 1 9=true:=rfl;have g:inB 2 1 9=true:=rfl;have i:inB 3 1 9=true:=rfl;have j:inB 4 1 9=true:=rfl;have l:inB 5 1 9=true:=rfl;have m:inB 6 1 9=true:=rfl;have n:inB 7 1 9=true:=rfl;have o:inB 8 1 9=true:=rfl;have p:inB 9 1 9=true:=rfl;obtain ⟨k,rfl⟩:=LA (show 0<=op by omega);have d:k<10:=I
  have b:0<k:=I
  clear a h
  match k,d,b with
  |1,_,_|2,_,_|3,_,_|4,_,_|5,_,_|6,_,_|7,_,_|8,_,_|9,_,_=>go_enter Pc,Pd;go_wp2_with fail;refine (ZaU _ _ _ _).mono ?_;rintro e w' ⟨rfl,rfl⟩;go_wp2;go_ret;exact ⟨rfl,(Grow.refl _).alloc _ _⟩
 ·have c:inB op 1 9=false:=DX
  have Hz:=hid (ZvQ a);clear a;go_enter Pc,Pd;go_wp2_with fail;refine (ZaU _ _ _ _).mono ?_;rw[c];rintro e w' ⟨rfl,rfl⟩;clear c;go_wp2;go_ret;exact ⟨Ce,Grow.refl _⟩
theorem Zh8 (op:Int) (w:World) (h:0<=op/\op<=9):Calls JG 54 #[.int .i64 op] w fun e w'=>e= .returned (.string (Za (opw op)))/\Grow w w':=by
 obtain ⟨k,rfl⟩:=LA h.1;have a:k<10:=I
 clear h
 match k,a with
 |0,_|1,_|2,_|3,_|4,_|5,_|6,_|7,_|8,_|9,_=>go_enter func54,ntmps54;go_wp2;go_ret;exact ⟨rfl,(Grow.refl _).alloc _ _⟩
def Zj (p:UInt8->Bool) (cur:List UInt8):List UInt8->List (List UInt8)
 |[]=>[cur]
 |c::r=>if p c=true then cur::Zj p [] r else Zj p (cur++[c]) r
theorem Zcu (p:UInt8->Bool): ∀ (l cur:List UInt8),(Zj p cur l).length<=l.length+1/\1<=(Zj p cur l).length
 |[],cur=>by simp[Zj]
 |c::r,cur=>by
  unfold Zj;split
  ·have:=Zcu p r [];simp;omega
  ·have:=Zcu p r (cur++[c]);simp;omega
theorem Zc0 {p:UInt8->Bool} {c:UInt8} {r:List UInt8} (hc:p c=true): ∀ {a cur:List UInt8},(∀ x∈a,p x=false)->Zj p cur (a++c::r)=(cur++a)::Zj p [] r
 |[],cur,_=>by simp[Zj,hc]
 |x::a,cur,h=>by have hx:=h x Θ;simp only[Kf,Zj,hx];rw[if_neg Θ,Zc0 hc (a:=a) (cur:=cur++[x]) fun y hy=>h y CJ];simp
theorem Zf6 {p:UInt8->Bool}: ∀ {a cur:List UInt8},(∀ x∈a,p x=false)->Zj p cur a=[cur++a]
 |[],cur,_=>by simp[Zj]
 |x::a,cur,h=>by have hx:=h x Θ;simp only[Zj,hx];rw[if_neg Θ,Zf6 (a:=a) (cur:=cur++[x]) fun y hy=>h y CJ];simp
theorem ZcZ {p:UInt8->Bool}: ∀ {l cur:List UInt8} {x:List UInt8},x∈Zj p cur l->x.length<=cur.length+l.length
 |[],cur,x,h=>by simp[Zj] at h;subst h;simp
 |c::r,cur,x,h=>by
  unfold Zj at h;split at h
  ·rcases List.mem_cons.1 h with rfl|h
   ·simp
   ·have:=ZcZ h;simp at *;omega
  ·have:=ZcZ h;simp at *;omega
theorem Zi3 (s:ByteArray) (a b:Nat):s.extract a b=Za ((s.data.toList.take b).drop a):=by
 apply NN;show (s.extract a b).data=((s.data.toList.take b).drop a).toArray;rw[Rc];apply Array.ext';simp[Array.toList_extract,List.drop_take]

end Go.Proofs.YtgjefeiddfjjnaaGreatDoor
