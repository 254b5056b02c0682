/- Determinants by expansion along the first row: plain. -/
import Derived.Test.YtjpcgofidijigaaGreatDoorZHerm
import Derived.Test.YtjpcgofidijigaaGreatDoorZBasI
import Derived.Laws.CopyOwn
import Derived.Test.YtjpcgofidijigaaGreatDoorZOrder
import Derived.Test.YtjpcgofidijigaaGreatDoorZSmith
import Derived.Test.YtjpcgofidijigaaGreatDoorZHermF
import Derived.Test.YtjpcgofidijigaaGreatDoorZHermY
set_option maxHeartbeats 8000000
set_option maxRecDepth 100000
namespace Go.Proofs.YtjpcgofidijigaaGreatDoor
open Go.RowKit
open Lib (hid)
open Go.Value renaming int->Yv
open Go.IntKind renaming i64->Yi
variable {C R c j k n:Nat} {P:Program} {S:Nat->Prop} {a:Act} {cells m:List Int} {p:Int} {s:HS} {t:TypeId} {v:Value} {w:World}
def ZZ (m:List Int) (C p q i:Nat):Nat->List Int->List Int
 |0,l=>l
 |j+1,l=>if i≠p/\j≠q then ZZ m C p q i j l++[cell m C i j] else ZZ m C p q i j l
def ZK (m:List Int) (C p q:Nat):Nat->List Int
 |0=>[]
 |i+1=>ZZ m C p q i C (ZK m C p q i)
theorem ZgE {m:List Int} {C p q i:Nat} (hi:i≠p): ∀ {j:Nat} {l:List Int},(ZZ m C p q i j l).length=l.length+(if q<j then j-1 else j)
 |0,l=>by simp[ZZ]
 |j+1,l=>by
  simp only[ZZ];by_cases e:j=q
  ·rw[if_neg (by omega),ZgE hi,if_neg (by omega),if_pos (by omega)];omega
  ·rw[if_pos ⟨hi,e⟩,List.length_append,ZgE hi];by_cases e2:q<j
   ·rw[if_pos e2,if_pos (by omega)];simp;omega
   ·rw[if_neg e2,if_neg (by omega)];simp;omega
theorem Zil {m:List Int} {C p q:Nat}: ∀ {j:Nat} {l:List Int},ZZ m C p q p j l=l
 |0,_=>rfl
 |j+1,l=>by simp only[ZZ];rw[if_neg (by omega)];exact Zil
theorem ZeG {m:List Int} {C p q:Nat} (hq:q<C): ∀ {i:Nat},(ZK m C p q i).length=(if p<i then i-1 else i)*(C-1)
 |0=>by simp[ZK]
 |i+1=>by
  simp only[ZK];by_cases e:i=p
  ·subst e;rw[Zil,ZeG hq,if_neg (by omega),if_pos (by omega)];rfl
  ·rw[ZgE e,ZeG hq,if_pos hq];by_cases e2:p<i
   ·rw[if_pos e2,if_pos (by omega)];have:i+1-1=(i-1)+1:=(by omega);rw[this,Nat.add_mul,Nat.one_mul]
   ·rw[if_neg e2,if_neg (by omega),Nat.add_mul,Nat.one_mul]
theorem Zf0 {m:List Int} {C p q i:Nat} (hm:NumL m): ∀ {j:Nat} {l:List Int},NumL l->NumL (ZZ m C p q i j l)
 |0,_,h=>h
 |j+1,l,h=>by
  simp only[ZZ];split
  ·intro x hx;rcases List.mem_append.1 hx with h1|h1
   ·exact Zf0 hm h x h1
   ·rw[List.mem_singleton.1 h1];exact Zo hm C i j
  ·exact Zf0 hm h
theorem ZeK {m:List Int} {C p q:Nat} (hm:NumL m): ∀ {i:Nat},NumL (ZK m C p q i)
 |0=>fun x hx=>by cases hx
 |i+1=>Zf0 hm (ZeK hm)
def Zcr (f:List Int->Option Int) (m:List Int) (n:Nat):Nat->Option Int
 |0=>some 0
 |k+1=>(Zcr f m n k).bind fun s=>if m.getD k 0=0 then some s else (f (ZK m n 0 k n)).map fun d=>s+(if k%2=1 then -m.getD k 0 else m.getD k 0)*d
def ZiK (s:Int):Option Int:=if -400000000<=s/\s<=400000000 then some s else none
def ZaC:Nat->List Int->Option Int
 |0,_=>some 1
 |n+1,m=>(Zcr (ZaC n) m (n+1) (n+1)).bind ZiK
theorem ZlP {s d:Int} (h:ZiK s=some d):d=s/\ -400000000<=d/\d<=400000000:=by
 unfold ZiK at h;split at h
 ·rename_i h1;have:=Option.some.inj h;omega
 ·cases h
theorem Zdc: ∀ {n:Nat} {m:List Int} {d:Int},ZaC n m=some d-> -400000000<=d/\d<=400000000
 |0,m,d,h=>by have:=Option.some.inj (show some (1:Int)=some d from h);omega
 |n+1,m,d,h=>by
  simp only[ZaC] at h;cases hs:Zcr (ZaC n) m (n+1) (n+1) with
  |none=>rw[hs] at h;cases h
  |some s=>rw[hs] at h;exact (ZlP h).2
theorem Zbl {a b q:Int} (ha: -p<=a/\a<=p) (hb: -q<=b/\b<=q): -(p*q)<=a*b/\a*b<=p*q:=by
 have h1:a.natAbs<=p.natAbs:=by omega
 have h2:b.natAbs<=q.natAbs:=by omega
 have h3:=Nat.mul_le_mul h1 h2;rw[←Int.natAbs_mul, ←Int.natAbs_mul] at h3;have h4:0<=p*q:=Int.mul_nonneg (by omega) (by omega);omega
theorem ZmT {n:Nat} {m:List Int} (hm:NumL m): ∀ {k:Nat} {s:Int},Zcr (ZaC n) m (n+1) k=some s-> -(160000000000000000*k)<=s/\s<=160000000000000000*k
 |0,s,h=>by have:=Option.some.inj (show some (0:Int)=some s from h);omega
 |k+1,s,h=>by
  simp only[Zcr] at h;cases hs:Zcr (ZaC n) m (n+1) k with
  |none=>rw[hs] at h;cases h
  |some s0=>
   have ih:=ZmT hm hs;rw[hs,Option.bind_some] at h;by_cases e:m.getD k 0=0
   ·rw[if_pos e] at h;have:=Option.some.inj h;omega
   ·rw[if_neg e] at h;cases hd:ZaC n (ZK m (n+1) 0 k (n+1)) with
    |none=>rw[hd] at h;cases h
    |some d=>rw[hd,Option.map_some] at h;have h1:=Option.some.inj h;have h2:=Zdc hd;have h3: -400000000<=m.getD k 0/\m.getD k 0<=400000000:=hm.getD k;have h4: -400000000<=(if k%2=1 then -m.getD k 0 else m.getD k 0)/\(if k%2=1 then -m.getD k 0 else m.getD k 0)<=400000000:=(by split<;>omega);have h5:=Zbl h4 h2;omega
theorem Zsb {f:List Int->Option Int} (h:Zcr f m n k=none) (hj:k<=j):Zcr f m n j=none:=by
 induction j with
 |zero=>
  obtain rfl:k=0:=by omega
  exact h
 |succ j ih=>
  by_cases e:k=j+1
  ·subst e;exact h
  ·simp only[Zcr];rw[ih (by omega)];rfl
abbrev Rt:=Int×Int
variable {r:Rt}
def isR (r:Rt):Bool:=decide (1<=r.2/\r.2<=400000000)&&(Zl r.1&&decide (Int.gcd r.1 r.2=1))
def rt0:Rt:=(0,0)
def sgD (n d:Int):Int:=if d<0 then -((Int.gcd n d:Nat):Int) else ((Int.gcd n d:Nat):Int)
def Zel (n d:Int):Rt:=if isR (n.tdiv (sgD n d),d.tdiv (sgD n d))=true then (n.tdiv (sgD n d),d.tdiv (sgD n d)) else rt0
def Zdu (a b:Rt):Rt:=if isR a&&isR b then Zel (a.1*b.2+b.1*a.2) (a.2*b.2) else rt0
def ZcZ (a:Rt):Rt:=if isR a then (-a.1,a.2) else rt0
def ZY (a b:Rt):Rt:=if isR a&&isR b then Zel (a.1*b.1) (a.2*b.2) else rt0
def Zdo (a b:Rt):Rt:=if isR a&&(isR b&& !decide (b.1=0)) then Zel (a.1*b.2) (a.2*b.1) else rt0
def ZaN (a b:Rt):Int:=if isR a&&isR b then (if a.1*b.2<b.1*a.2 then -1 else if b.1*a.2<a.1*b.2 then 1 else 0) else 2
def ZbU (a:Rt):Int:=if isR a then (2*a.1+a.2)/(2*a.2) else 0
theorem Zdi:isR r=true↔(1<=r.2/\r.2<=400000000)/\(-400000000<=r.1/\r.1<=400000000)/\Int.gcd r.1 r.2=1:=by
 unfold isR;rw[Bool.and_eq_true,Bool.and_eq_true,decide_eq_true_eq,decide_eq_true_eq,ZI]
def RtN (r:Rt):Prop:=(-400000000<=r.1/\r.1<=400000000)/\(0<=r.2/\r.2<=400000000)
theorem RtN.of (h:isR r=true):RtN r:=by
 obtain ⟨h1,h2, -⟩:=Zdi.1 h;exact ⟨h2,by omega,h1.2⟩
theorem RtN.zero:RtN rt0:=by unfold RtN rt0;simp
theorem Zry (a:Rt): -400000000<=ZbU a/\ZbU a<=400000000:=by
 unfold ZbU;split
 ·rename_i h;obtain ⟨h1,h2, -⟩:=Zdi.1 h;constructor
  ·refine Int.le_ediv_of_mul_le (by omega) ?_;have: -400000000*(2*a.2)<= -400000000*2:=(by omega);omega
  ·refine Int.lt_add_one_iff.1 (Int.ediv_lt_of_lt_mul (by omega) ?_);omega
 ·omega
def rAt (l:List Rt) (k:Nat):Rt:=l.getD k rt0
def ZdF (mu:List (List Rt)) (s row:List Rt) (i j:Nat):Nat->Rt->Rt
 |0,r=>r
 |k+1,r=>Zdu (ZdF mu s row i j k r) (ZcZ (ZY (ZY (rAt row k) (if j=i then rAt row k else rAt (mu.getD j []) k)) (rAt s k)))
def Zch (g:List Int) (n:Nat) (mu:List (List Rt)) (s:List Rt) (i:Nat):Nat->Option (List Rt)
 |0=>some []
 |j+1=>(Zch g n mu s i j).bind fun row=>if isR (ZdF mu s row i j j (cell g n i j,1)) then some (row++[Zdo (ZdF mu s row i j j (cell g n i j,1)) (rAt s j)]) else none
def Za1 (g:List Int) (n:Nat):Nat->Option (List (List Rt)×List Rt)
 |0=>some ([],[])
 |i+1=>(Za1 g n i).bind fun o=>(Zch g n o.1 o.2 i i).bind fun row=>
   if isR (ZdF o.1 o.2 row i i i (cell g n i i,1))&&decide (0<(ZdF o.1 o.2 row i i i (cell g n i i,1)).1) then some (o.1++[row],o.2++[ZdF o.1 o.2 row i i i (cell g n i i,1)]) else none
theorem Zir {g:List Int} {n i:Nat} {mu:List (List Rt)} {s:List Rt}: ∀ {j:Nat} {row:List Rt},Zch g n mu s i j=some row->row.length=j
 |0,row,h=>by rw[←Option.some.inj (show some []=some row from h)];rfl
 |j+1,row,h=>by
  simp only[Zch] at h;cases h1:Zch g n mu s i j with
  |none=>rw[h1] at h;cases h
  |some r0=>
   rw[h1,Option.bind_some] at h;split at h
   ·rw[←Option.some.inj h];simp[Zir h1]
   ·cases h
theorem Zgb {g:List Int} {n:Nat}: ∀ {i:Nat} {o:List (List Rt)×List Rt},Za1 g n i=some o->o.1.length=i/\o.2.length=i/\ ∀ (k:Nat) (row:List Rt),o.1[k]? =some row->row.length=k
 |0,o,h=>by rw[←Option.some.inj (show some ([],[])=some o from h)];exact ⟨rfl,rfl,fun k row hk=>by simp at hk⟩
 |i+1,o,h=>by
  simp only[Za1] at h;cases h1:Za1 g n i with
  |none=>rw[h1] at h;cases h
  |some o0=>
   rw[h1,Option.bind_some] at h;cases h2:Zch g n o0.1 o0.2 i i with
   |none=>rw[h2] at h;cases h
   |some row=>
    rw[h2,Option.bind_some] at h;split at h
    ·obtain ⟨a1,a2,a3⟩:=Zgb h1;rw[←Option.some.inj h];refine ⟨by simp[a1],by simp[a2],fun k r hk=> ?_⟩;by_cases e:k<i
     ·rw[List.getElem?_append_left (by omega)] at hk;exact a3 k r hk
     ·rw[List.getElem?_append_right (by omega)] at hk;have e2:k=i:=by
       rcases Nat.eq_zero_or_pos (k-i) with h0|h0
       ·omega
       ·rw[List.getElem?_eq_none (by simp;omega)] at hk;cases hk
      subst e2;simp[a1] at hk;rw[←hk];exact Zir h2
    ·cases h
theorem Zfa {m:Mat} (h:Ze m=true):bdM m<=576:=by
 obtain ⟨R,C,_,_,hR,hC,hl,_⟩:=Zn h;have hRC:R*C<=24*24:=Nat.mul_le_mul hR hC;unfold bdM;omega
theorem ZnC {α:Type} (L:List α) (off:Nat):splice L off []=L:=by simp[splice]
theorem ZrD {o:Oper} {K:Act->World->Prop} {Q:Exit->Act->World->Prop} {d s:Operand} {e:TypeId} {z:Value} {bytes:Nat} (ho:o.op= .call {callee:= .builtin .copy,args:= #[d,s],argTypes:= #[t,t]})
  (hT:SlT P t e z 1 bytes) {dp sp oa:Option Addr} {dCap sLen sCap cap off:Nat} {cs news:List Value} (hd:a.eval d= .slice dp sLen dCap) (hs:a.eval s= .slice sp sLen sCap) (hown:Own w e 1 oa n cap cs)
  (hsrc:Row w S 1 sp sLen sCap news) (h1: ∀ u∈news,u.oneCell'=true) (hfit:off+sLen<=n) (hdp:0<sLen-> ∃ g,oa=some ⟨g,0,none⟩/\dp=some ⟨g,off,none⟩)
  (h: ∀ w' v,Own w' e 1 oa n cap (splice cs off news)->Keep (fun q=>blk oa≠some q) w w'->K (a.put o.dst v) w'):o.wp P a w K Q:=by
 obtain ⟨ht,⟨i,hi,hz,hsz,hby⟩,hzs⟩:=hT;have hsz':(P.info? e).map (·.size)=some 1:=by rw[hi];simp[hsz]
 have hln:news.length=sLen:=by have:=hsrc.len;omega
 by_cases h0:sLen=0
 ·subst h0;obtain rfl:news=[]:=List.eq_nil_of_length_eq_zero hln;have hr:=run_copy_none (P:=P) w t t o.type e dp sp 0 dCap 0 sCap ht hsz' rfl;unfold Oper.wp execOp;simp only[ho,resolve,invoke,builtin,Sem.run_bind,Sem.run_pure,Result.andThen_ok,List.map_toArray,List.map_cons,List.map_nil,hs,hd,hr];exact h w _ (by rw[ZnC];exact hown) (Keep.refl _ _)
 ·obtain ⟨g,rfl,rfl⟩:=hdp (by omega);obtain ⟨-,cur,hg,hsize,htake⟩:=hown.block _ rfl;obtain ⟨b,so,rfl, -,hc⟩:=hsrc.addr (by intro e2;rw[e2] at hln;simp at hln;omega);have hlc:=hown.len;have hle:=hown.le;rw[Nat.mul_one] at hsize htake hlc;have hr:=run_copy_row (P:=P) w t t o.type e g off sLen dCap ⟨b,so,none⟩ sLen sCap cur e news ht hsz' hg (by simp[hln]) (fun j v hj=>by rw[Addr.add_lit];exact hc j v hj) (by omega) h1;unfold Oper.wp execOp;simp only[ho,resolve,invoke,builtin,Sem.run_bind,Sem.run_pure,Result.andThen_ok,List.map_toArray,List.map_cons,List.map_nil,hs,hd,hr];refine h _ _ ⟨?_,hown.le,hown.max,hown.nil,fun p hp=> ?_⟩ (Zii hg _)
  ·rw[length_splice _ _ _ (by omega),hlc,Nat.mul_one]
  ·obtain rfl:=Option.some.inj hp;refine ⟨rfl,_,setRow_heap w g cur _ e _ hg, ?_, ?_⟩
   ·simp only[List.size_toArray,List.length_append,List.length_take,List.length_drop,Array.length_toList];omega
   ·rw[Nat.mul_one, ←htake];unfold splice;simp only[List.append_assoc];rw[List.take_take,Nat.min_eq_left (by omega),List.take_append,List.take_append];simp only[List.length_take,Array.length_toList];rw[List.take_of_length_le (l:=List.take off cur.toList) (by simp;omega),List.take_of_length_le (l:=news) (by omega)];congr 2;rw[List.drop_take];congr 1;omega
def ZbC (m:List Int) (K n:Nat) (t:Nat):List Int:=((List.range t).map fun i=>(Z6 m K i).take n).flatten
theorem ZkG (m:List Int) (K n t:Nat):ZbC m K n (t+1)=ZbC m K n t++(Z6 m K t).take n:=by
 unfold ZbC;rw[List.range_succ,List.map_append,List.flatten_append];simp
theorem Zit {m:List Int} {K R n:Nat} (hl:m.length=R*K) (hn:n<=K): ∀ {t:Nat},t<=R->(ZbC m K n t).length=t*n
 |0,_=>by simp[ZbC]
 |t+1,h=>by rw[ZkG,List.length_append,Zit hl hn (by omega),List.length_take,ZdT hl (by omega),Nat.add_mul];omega
theorem Zl7 {K:Nat} (h:NumL m) (t:Nat):NumL (ZbC m K n t):=fun x hx=>by
 unfold ZbC at hx;rw[List.mem_flatten] at hx;obtain ⟨l,hl,hx⟩:=hx;obtain ⟨i,_,rfl⟩:=List.mem_map.1 hl;exact h x (List.mem_of_mem_drop (List.mem_of_mem_take (List.mem_of_mem_take hx)))
def ZiN (s:HS) (C R:Nat):Mat:={rows:=((R-Zar s.1 C R:Nat):Int),cols:=(R:Int),cells:=s.2.drop (Zar s.1 C R*R)}
def ZeI (m:Mat):Bool:=match Zbs m with
 |some s=>ZeL (ZiN s m.cols.toNat m.rows.toNat)
 |none=>false
def Zen (m:Mat):Mat:=match Zbs m with
 |some s=>ZdK (ZiN s m.cols.toNat m.rows.toNat)
 |none=>{rows:=0,cols:=0,cells:=[]}
theorem Zj5 {m:Mat} (h:Zbs m=none):ZeI m=false/\Zen m={rows:=0,cols:=0,cells:=[]}:=by
 unfold ZeI Zen;rw[h];exact ⟨rfl,rfl⟩
theorem Zo1 (hB:Ze {rows:=(R:Int),cols:=(C:Int),cells:=cells}=true) (h:Zb7 cells R C=some s):
  ZeI {rows:=(R:Int),cols:=(C:Int),cells:=cells}=ZeL (ZiN s C R)/\Zen {rows:=(R:Int),cols:=(C:Int),cells:=cells}=ZdK (ZiN s C R):=by
 have h1:=Ze7 hB;rw[h] at h1;unfold ZeI Zen;rw[h1];exact ⟨rfl,rfl⟩
theorem ZoQ {t:Nat} (h:Ech C R m C t) (ht:t<=R):((List.range R).filter fun i=> !nzB m C i)=List.range' t (R-t):=by
 have e:List.range R=List.range t++List.range' t (R-t):=by rw[List.range_eq_range',List.range_eq_range'];have:=List.range'_append (s:=0) (m:=t) (n:=R-t) (step:=1);simp at this;rw[this];congr 1;omega
 rw[e,List.filter_append];have h1:((List.range t).filter fun i=> !nzB m C i)=[]:=List.filter_eq_nil_iff.2 fun i hi hz=>by rw[Zdg.2 (h.full i (List.mem_range.1 hi))] at hz;cases hz
 have h2:((List.range' t (R-t)).filter fun i=> !nzB m C i)=List.range' t (R-t):=List.filter_eq_self.2 fun i hi=>by
  rw[List.mem_range'_1] at hi;cases hz:nzB m C i with
  |false=>rfl
  |true=>obtain ⟨k,hk,hne⟩:=Zdg.1 hz;exact (hne (h.zero i (by omega) (by omega) k hk)).elim
 rw[h1,h2,List.nil_append]
theorem ZjY {m:List Int} {C:Nat}: ∀ {n t:Nat},m.length=(t+n)*C->((List.range' t n).map (Z6 m C)).flatten=m.drop (t*C)
 |0,t,h=>by rw[Nat.add_zero] at h;simp[←h]
 |n+1,t,h=>by rw[List.range'_succ,List.map_cons,List.flatten_cons,ZjY (by rw[h];congr 1;omega)];unfold Z6;rw[Nat.add_mul,Nat.one_mul, ←List.drop_drop,List.take_append_drop]
theorem ZoT (hl:cells.length=R*C) (hm:NumL cells) (h:Zb7 cells R C=some s):
  ((List.range R).filter fun i=> !nzB s.1 C i)=List.range' (Zar s.1 C R) (R-Zar s.1 C R)/\((List.range' (Zar s.1 C R) (R-Zar s.1 C R)).map (Z6 s.2 R)).flatten=s.2.drop (Zar s.1 C R*R):=by
 obtain ⟨hs,t,ht,hE⟩:=Zdf hl hm h;have e:=ZiB hE R (Nat.le_refl _) ht;rw[e];exact ⟨ZoQ hE ht,ZjY (by rw[hs.lu];congr 1;omega)⟩
theorem Zoe {m:Mat} {a:Option Addr} {mr mc:Int} (hVM:VM w S (.agg #[Yv Yi mr,Yv Yi mc, .slice a n c]) m) (hb:bdM m<=1048576) (hB:Ze m=false):
  Calls Tryz.prog 138 #[.agg #[Yv Yi mr,Yv Yi mc, .slice a n c]] w fun e w'=> ∃ r,e= .returned (.tuple #[r, .bool (ZeI m)])/\OM w' (New w w') r (Zen m)/\Grow w w':=by
 have Hz:=hid (Zj5 (m:=m) (by unfold Zbs;rw[hB];rfl));obtain ⟨w3,hw3,hG, -,bR, -⟩:=al2 w #[Yv Yi mr,Yv Yi mc, .slice a n c] 34 #[Yv Yi 0,Yv Yi 0, .slice none 0 0] 34;have Hw3:=hid hw3;clear hw3;go_enter Tryz.func138,Tryz.ntmps138;go_wp2_with fail;rw[←Hw3.out];refine (Zfx (hVM.grow hG) hb hB).mono ?_;rintro e w4 ⟨rfl,hG4⟩;have hZ1:=((Grow.refl w4).alloc #[Yv Yi 0,Yv Yi 0, .slice none 0 0] 34).alloc #[Yv Yi 0,Yv Yi 0, .slice none 0 0] 34;have bR5:=(bR.grow hG4).grow hZ1;have hltR:w.heap.size+1<w4.heap.size:=(bR.grow hG4).lt;have hG5:=(hG.trans hG4).trans hZ1;obtain ⟨⟨a0,a1,a2⟩,f0,f1,f2⟩:=bR5.three;have h1:w.heap.size<=w.heap.size+1:=by omega
 go_wp2;exact Zd Zc rfl rfl rfl (((bR5.set 0 _).set 1 _).set 2 _) ⟨_,by rw[Hz.out.1];rfl,by rw[Hz.out.2];exact OM.zero,((hG5.setCell h1 _).setCell h1 _).setCell h1 _⟩
theorem ZmK {a:Option Addr} (h:RdI w S a n c cells) (hl:cells.length=R*C) (hnum:NumL cells) (hR:R<=24) (hC:C<=24):
  Calls Tryz.prog 138 #[.agg #[Yv Yi R,Yv Yi C, .slice a n c]] w fun e w'=> ∃ r,e= .returned (.tuple #[r, .bool (ZeI {rows:=(R:Int),cols:=(C:Int),cells:=cells})])/\OM w' (New w w') r (Zen {rows:=(R:Int),cols:=(C:Int),cells:=cells})/\Grow w w':=by
 have hB:=Za9 hR hC hl hnum;obtain ⟨mr,hmr⟩: ∃ mr:Int,mr=R:=⟨_,rfl⟩;obtain ⟨mc,hmc⟩: ∃ mc:Int,mc=C:=⟨_,rfl⟩;have hb1:=fun s=>Zo1 (s:=s) hB;have hb2:=fun hn:Zb7 cells R C=none=>Zj5 (m:={rows:=(R:Int),cols:=(C:Int),cells:=cells}) (by rw[Ze7 hB];exact hn);have Hb1:=hid hb1;have Hb2:=hid hb2;clear hb1 hb2 hB;generalize hM:({rows:=(R:Int),cols:=(C:Int),cells:=cells}:Mat)=M at *;clear hM;rw[←hmr, ←hmc];obtain ⟨w3,hw3,hG, -,bR, -⟩:=al2 w #[Yv Yi mr,Yv Yi mc, .slice a n c] 34 #[Yv Yi 0,Yv Yi 0, .slice none 0 0] 34;have Hw3:=hid hw3;clear hw3;subst hmr;subst hmc;go_enter Tryz.func138,Tryz.ntmps138;go_wp2_with fail;rw[←Hw3.out];refine (Zhy (h.grow hG) hl hnum hR hC).mono ?_;rintro e w4 ⟨hG4,(⟨hn,rfl⟩|⟨s,aa,ca,au,cu,hs,rfl,rA,rU⟩)⟩
 ·have Hz:=hid (Hb2.out hn);clear hn;have hZ1:=((Grow.refl w4).alloc #[Yv Yi 0,Yv Yi 0, .slice none 0 0] 34).alloc #[Yv Yi 0,Yv Yi 0, .slice none 0 0] 34;have bR5:=(bR.grow hG4).grow hZ1;have hltR:w.heap.size+1<w4.heap.size:=(bR.grow hG4).lt;have hG5:=(hG.trans hG4).trans hZ1;obtain ⟨⟨a0,a1,a2⟩,f0,f1,f2⟩:=bR5.three;have h1:w.heap.size<=w.heap.size+1:=by omega
  go_wp2;exact Zd Zc rfl rfl rfl (((bR5.set 0 _).set 1 _).set 2 _) ⟨_,by rw[Hz.out.1];rfl,by rw[Hz.out.2];exact OM.zero,((hG5.setCell h1 _).setCell h1 _).setCell h1 _⟩
 ·have Hy:=hid (Hb1.out s hs);have hsp:=(Zdf hl hnum hs).1;have htR:Zar s.1 C R<=R:=ZlG _ _ _;obtain ⟨hf1,hf2⟩:=ZoT hl hnum hs;have hltR:w.heap.size+1<w4.heap.size:=(bR.grow hG4).lt;obtain ⟨w5,hw5,hG5,bH,bV, -⟩:=al2 w4 #[Yv Yi (R:Int),Yv Yi (C:Int), .slice aa (R*C) ca] 34 #[Yv Yi (R:Int),Yv Yi (R:Int), .slice au (R*R) cu] 34;obtain ⟨⟨a0,a1,a2⟩, -⟩:=bH.three;rw[hw5] at a0 a1 a2;have Hw5:=hid hw5;clear hw5;have rA5:=rA.grow hG5;have rU5:=rU.grow hG5;have bR5:=(bR.grow hG4).grow hG5;clear rA rU hs;go_wp2_with fail;rw[←Hw5.out];refine (Zh8 aa _ ca C R s.1 _ rA5 hsp.la hR hC).mono ?_;rintro e w6 ⟨a1',a2',n1,n2,c1,c2,rfl,hP,hG6⟩;rw[hf1] at hP;have hkm:ZiN s C R={rows:=((R-Zar s.1 C R:Nat):Int),cols:=(R:Int),cells:=s.2.drop (Zar s.1 C R*R)}:=rfl;rw[hkm] at Hy;clear hkm;generalize Zar s.1 C R=t at *;have rI:=hP.ou.rdI (S:=fun _=>True) (fun _ _=>trivial) (Zmc (l:=List.range' t (R-t)) (fun x hx=>by rw[List.mem_range'_1] at hx;omega));have Hn2:=hid (show n2=R-t by have:=rI.len;unfold ZdN at this;simpa using this.symm);have bV6:=bV.grow hG6;obtain ⟨⟨a0,a1,a2⟩, -⟩:=bV6.three;have rU6:=rU5.grow hG6;have bR6:=bR5.grow hG6;have hGt:=((hG.trans hG4).trans hG5).trans hG6;clear hP hf1;have hlt6:w.heap.size+1<w6.heap.size:=bR6.lt;go_wp2_with fail;refine (Zi0 au a2' _ cu n2 c2 R R s.2 (List.range' t (R-t)) _ rU6 hsp.lu hR hR rI (fun x hx=>by rw[List.mem_range'_1] at hx;omega) (by simp;omega)).mono ?_;rintro e w7 ⟨a',c',rfl,hO7,hlo7,hG7⟩;rw[hf2] at hO7;rw[←Hn2.out] at Hy;have hn24:n2<=24:=by have:=Hn2.out;omega
  have hRR:R*R<=24*24:=Nat.mul_le_mul hR hR;have hnr:NumL (s.2.drop (t*R)):=fun x hx=>hsp.nu x (List.mem_of_mem_drop hx);have vK:VM w7 (fun _=>True) (.agg #[Yv Yi (n2:Int),Yv Yi (R:Int), .slice a' (n2*R) c']) {rows:=(n2:Int),cols:=(R:Int),cells:=s.2.drop (t*R)}:=
   ⟨a',_,c',rfl,hO7.rdI (fun _ _=>trivial) (Zy hnr),by show I64 (n2:Int);unfold I64;omega,by show I64 (R:Int);unfold I64;omega⟩
  go_wp2_with fail;refine (Zoa vK (by unfold bdM;simp only[List.length_drop];rw[hsp.lu];omega)).mono ?_;rintro e w8 ⟨r,rfl,hRes,hG8⟩;obtain ⟨ra,rn,rc,rfl,oR,rR,fR,i1,i2⟩:=hRes;generalize hbm:ZdK {rows:=(n2:Int),cols:=(R:Int),cells:=s.2.drop (t*R)}=BM at *;clear hbm;have bR8:=(bR6.grow hG7).grow hG8;have hs7:=hG7.size;have hs6:=hGt.size;obtain ⟨⟨b0,b1,b2⟩,f0,f1,f2⟩:=bR8.three;have hK9:Keep (fun q=>q≠w.heap.size+1) w8 (((w8.setCell ⟨w.heap.size+1,0,none⟩ (Yv Yi BM.rows)).setCell ⟨w.heap.size+1,1,none⟩ (Yv Yi BM.cols)).setCell ⟨w.heap.size+1,2,none⟩ (.slice ra rn rc)):=
   (((Keep.refl _ w8).setCell (fun _ e=>e rfl) _).setCell (fun _ e=>e rfl) _).setCell (fun _ e=>e rfl) _
  have hof:=oR.keep hK9 (fun g hg _ e=>by have:=(fR g hg).1;omega);have hBf:=((bR8.set 0 (Yv Yi BM.rows)).set 1 (Yv Yi BM.cols)).set 2 (.slice ra rn rc);have hGf:=((hGt.trans hG7).trans hG8).keep hK9 fun q hq=>by omega
  go_wp2;refine Zd Zc rfl rfl rfl hBf ⟨_,by rw[Hy.out.1];rfl,by rw[Hy.out.2];exact ⟨ra,rn,rc,rfl,hof,rR,fun g hg=>⟨by have:=(fR g hg).1;omega,hof.lt hg⟩,i1,i2⟩,hGf⟩
theorem ZmM {m:Mat} (h:VM w S v m) (hb:bdM m<=1048576):
  Calls Tryz.prog 138 #[v] w fun e w'=> ∃ r,e= .returned (.tuple #[r, .bool (ZeI m)])/\OM w' (New w w') r (Zen m)/\Grow w w':=by
 have hVM:=h;obtain ⟨a,n,c,rfl,h,hr,hc⟩:=h;cases hB:Ze m with
 |false=>exact Zoe hVM hb hB
 |true=>obtain ⟨R,C,hmr,hmc,hR,hC,hl,hnum⟩:=Zn hB;obtain ⟨mr,mc,cells⟩:=m;simp only at hmr hmc hl hnum;subst hmr;subst hmc;exact ZmK h hl hnum hR hC
def KerPost (z N:Nat) (L:List Int) (x y:Int) (BM:Mat) (bo:Bool):Nat->Value->World->Prop
 |6,u,w=> ∃ g,u= .slice (some ⟨g,0,none⟩) 0 0/\Own w 3 1 (some ⟨g,0,none⟩) 0 0 []
 |14,u,w=> ∃ g c,u= .slice (some ⟨g,0,none⟩) N c/\Own w 3 1 (some ⟨g,0,none⟩) N c (ints L)
 |15,u,w=> ∃ g c,u= .agg #[Yv Yi x,Yv Yi y, .slice (some ⟨g,0,none⟩) N c]/\Own w 3 1 (some ⟨g,0,none⟩) N c (ints L)
 |16,u,w=> ∃ r,u= .tuple #[r, .bool bo]/\OM w (fun g=>z<=g) r BM
 |17,u,w=> ∃ r,u= .tuple #[r, .bool bo]/\OM w (fun g=>z<=g) r BM
 |18,u,w=>OM w (fun g=>z<=g) u BM
 |19,u,_=>u= .bool bo
 |20,u,w=> ∃ g,u= .pointer (some ⟨g,0,none⟩)/\z<=g/\Blk w g #[Yv Yi 0,Yv Yi 0, .slice none 0 0] 34
 |_,_,_=>True
theorem KerPost.stays {z N:Nat} {L:List Int} {x y:Int} {BM:Mat} {bo:Bool}: ∀ i u w w',Grow w w'->KerPost z N L x y BM bo i u w->KerPost z N L x y BM bo i u w':=fun i u w w' hG h=>by
 unfold KerPost at *;split at h
 ·obtain ⟨g,h1,h2⟩:=h;exact ⟨g,h1,h2.grow hG⟩
 ·obtain ⟨g,c,h1,h2⟩:=h;exact ⟨g,c,h1,h2.grow hG⟩
 ·obtain ⟨g,c,h1,h2⟩:=h;exact ⟨g,c,h1,h2.grow hG⟩
 ·obtain ⟨r,h1,h2⟩:=h;exact ⟨r,h1,h2.grow hG⟩
 ·obtain ⟨r,h1,h2⟩:=h;exact ⟨r,h1,h2.grow hG⟩
 ·exact h.grow hG
 ·exact h
 ·obtain ⟨g,h1,h2,h3⟩:=h;exact ⟨g,h1,h2,h3.grow hG⟩
 ·trivial
theorem ZrV (m:Mat):bdM (ZdK m)<=1024:=by
 cases hB:Ze m with
 |false=>rw[(Zhf (by unfold Zbs;rw[hB];rfl)).2];simp[bdM]
 |true=>
  obtain ⟨R,C,hmr,hmc,hR,hC,hl,hnum⟩:=Zn hB;have hRC:R*C<=24*24:=Nat.mul_le_mul hR hC;unfold ZdK;cases hh:Zbs m with
  |none=>simp[bdM]
  |some s=>have hs:Zb7 m.cells R C=some s:=(by unfold Zbs at hh;rw[hB,if_pos rfl,hmr,hmc] at hh;simpa using hh);have:=(Zdf hl hnum hs).1.la;unfold bdM;simp only[List.length_take];omega
theorem ZrO (m:Mat):bdM (Zen m)<=1024:=by
 unfold Zen;split
 ·exact ZrV _
 ·simp[bdM]
structure Zs5 (m:Mat) (R N:Nat) (b:List Int):Prop where
 eq:Zen m={rows:=(N:Int),cols:=(R:Int),cells:=b}
 rows:m.rows=(R:Int)
 hR:R<=24
 hN:N<=24
 len:b.length=N*R
 num:NumL b
def Zdj (a b:Mat):Bool:=decide (a.rows=b.rows)&&(decide (a.cols=b.cols)&&ZnT a.cells b.cells)
theorem ZkP {T:Nat->Prop} {u:Value} {A B:Mat} (hA:VM w S u A) (hB:VM w T v B) (hb:bdM A<=2097152):
  Calls Tryz.prog 161 #[u,v] w fun e w'=>e= .returned (.bool (Zdj A B))/\Grow w w':=by
 obtain ⟨aa,an,ac,rfl,hA,ia1,ia2⟩:=hA;obtain ⟨ba,bn,bc,rfl,hB,ib1,ib2⟩:=hB;obtain ⟨w3,hw3,hG3,bA,bB, -⟩:=al2 w #[Yv Yi A.rows,Yv Yi A.cols, .slice aa an ac] 34 #[Yv Yi B.rows,Yv Yi B.cols, .slice ba bn bc] 34;obtain ⟨⟨x0,x1,x2⟩, -⟩:=bA.three;obtain ⟨⟨y0,y1,y2⟩, -⟩:=bB.three;have hltA:=bA.lt;have hltB:=bB.lt;have rA:=hA.grow hG3;have rB:=hB.grow hG3;have hla:=rA.len;have hlb:=rB.len;unfold bdM at hb;have Hw3:=hid hw3;rw[hw3] at x0 x1 x2 y0 y1 y2;clear hw3;by_cases h1:A.rows=B.rows
 ·have q1:(A.rows==B.rows)=true:=by simp[h1]
  by_cases h2:A.cols=B.cols
  ·have q2:(A.cols==B.cols)=true:=(by simp[h2]);have Hz:=hid (show Zdj A B=ZnT A.cells B.cells by unfold Zdj;rw[decide_eq_true h1,decide_eq_true h2];rfl);clear h1 h2;go_enter Tryz.func161,Tryz.ntmps161;go_wp2_with fail;rw[←Hw3.out];refine (Zqp aa ba an bn ac bc A.cells B.cells _ rA rB (by omega)).mono ?_;rintro e w4 ⟨rfl,hQ⟩;go_wp2;go_ret;exact ⟨by rw[Hz.out];rfl,hG3.trans hQ.grow⟩
  ·have q2:(A.cols==B.cols)=false:=(by simp[h2]);have Hz:=hid (show Zdj A B=false by unfold Zdj;rw[decide_eq_false h2];simp);clear h1 h2;go_enter Tryz.func161,Tryz.ntmps161;go_wp2;rw[←Hw3.out];go_ret;exact ⟨by rw[Hz.out];rfl,hG3⟩
 ·have q1:(A.rows==B.rows)=false:=by simp[h1]
  have Hz:=hid (show Zdj A B=false by unfold Zdj;rw[decide_eq_false h1];rfl);clear h1;go_enter Tryz.func161,Tryz.ntmps161;go_wp2;rw[←Hw3.out];go_ret;exact ⟨by rw[Hz.out];rfl,hG3⟩
def ZaY (g:List Int) (n:Nat):Nat->Option (List Int)
 |0=>some []
 |k+1=>(ZaY g n k).bind fun l=>(ZaC (k+1) (ZbC g n (k+1) (k+1))).map fun d=>l++[d]
def Zas (m:Mat):Bool:=Ze m&&(decide (m.rows=m.cols)&&decide (m.rows<=6))
def ZbP (m:Mat):Bool:=Zas m&&Zdj (Zd7 m) m
def ZcE (m:Mat):Bool:=ZbP m&&(match ZaY m.cells m.rows.toNat m.rows.toNat with
 |some l=>l.all fun d=>decide (0<d)
 |none=>false)
def ZgA (row:List Rt):Nat->Option (Option (Nat×Int))
 |0=>some none
 |j+1=>if isR (rAt row j) then (if ZbU (rAt row j)=0 then ZgA row j else some (some (j,ZbU (rAt row j)))) else none
def ZeM (n k j:Nat) (t:Int) (S:SS):Option SS:=(ZaF n n k j t S).bind (Zbm n n k j t)
def Zjb (n k j:Nat) (S:SS):SS:=ZiA n n k j (Zc7 n n k j S)
def muAt (o:List (List Rt)×List Rt) (i j:Nat):Rt:=rAt (o.1.getD i []) j
def Zct (o:List (List Rt)×List Rt) (k:Nat):Rt:=ZY (Zdu (3,4) (ZcZ (ZY (muAt o k (k-1)) (muAt o k (k-1))))) (rAt o.2 (k-1))
def Zbv (n k:Nat) (o:List (List Rt)×List Rt) (S:SS):Option (SS×Nat):=
 (ZgA (o.1.getD k []) k).bind fun x=>match x with
  |some jt=>(ZeM n k jt.1 (-jt.2) S).map fun S'=>(S',k)
  |none=>if ZaN (rAt o.2 k) (Zct o k)=2 then none else if ZaN (rAt o.2 k) (Zct o k)= -1 then some (Zjb n k (k-1) S,max 1 (k-1)) else some (S,k+1)
def Zc6 (n:Nat):Nat->Nat->SS->Option SS
 |0,k,S=>if k<n then none else some S
 |f+1,k,S=>if k<n then (Za1 S.1 n n).bind fun o=>(Zbv n k o S).bind fun r=>Zc6 n f r.2 r.1 else some S
def Zdy (g:Mat):Option SS:=if ZcE g then Zc6 g.rows.toNat 200 1 (g.cells,idL g.rows.toNat,idL g.rows.toNat) else none
def ZbI (b:Mat):Bool:=Ze b&&ZB b (Zd7 b)
def ZbO (b:Mat):Mat:=if Ze b then Zu b (Zd7 b) else {rows:=0,cols:=0,cells:=[]}
def ZjM (b:Mat):Option Mat:=if ZbI b then (Zdy (ZbO b)).map fun S=>{rows:=b.rows,cols:=b.rows,cells:=S.2.1} else none
def Zcj (b:Mat):Bool:=match ZjM b with
 |some u=>ZB u b
 |none=>false
def ZcF (b:Mat):Mat:=match ZjM b with
 |some u=>if ZB u b then Zu u b else {rows:=0,cols:=0,cells:=[]}
 |none=>{rows:=0,cols:=0,cells:=[]}
theorem Zqv {t:Int} {S S':SS} (h:Ss n n S) (he:ZeM n k j t S=some S'):Ss n n S':=by
 unfold ZeM at he;cases h1:ZaF n n k j t S with
 |none=>rw[h1] at he;cases he
 |some S1=>rw[h1,Option.bind_some] at he;exact (ZgC (ZdR h h1).1 he).1
theorem Zqq {S:SS} (h:Ss n n S):Ss n n (Zjb n k j S):=ZhS (ZfR h)
theorem Zm7 {o:List (List Rt)×List Rt} {S:SS} {r:SS×Nat} (h:Ss n n S) (hk:1<=k) (he:Zbv n k o S=some r):Ss n n r.1/\1<=r.2/\r.2<=k+1:=by
 unfold Zbv at he;cases hf:ZgA (o.1.getD k []) k with
 |none=>rw[hf] at he;cases he
 |some x=>
  rw[hf,Option.bind_some] at he;cases x with
  |some jt=>
   simp only at he;cases hb:ZeM n k jt.1 (-jt.2) S with
   |none=>rw[hb] at he;cases he
   |some S'=>rw[hb,Option.map_some] at he;rw[←Option.some.inj he];exact ⟨Zqv h hb,hk,by show k<=k+1;omega⟩
  |none=>
   simp only at he;split at he
   ·cases he
   ·split at he
    ·rw[←Option.some.inj he];exact ⟨Zqq h,by show 1<=max 1 (k-1);omega,by show max 1 (k-1)<=k+1;omega⟩
    ·rw[←Option.some.inj he];exact ⟨h,by show 1<=k+1;omega,Nat.le_refl _⟩
def ResL (p:Int) (m:List Int):Prop:= ∀ x∈m,0<=x/\x<p
theorem ResL.getD (hp:2<=p) (h:ResL p m) (i:Nat):0<=m.getD i 0/\m.getD i 0<p:=by
 by_cases hi:i<m.length
 ·have e:m.getD i 0=m[i]:=by simp[List.getD,List.getElem?_eq_getElem hi]
  rw[e];exact h _ (List.getElem_mem hi)
 ·have e:m.getD i 0=0:=by simp[List.getD,List.getElem?_eq_none (show m.length<=i by omega)]
  rw[e];omega
def elK (m:List Int) (C j:Nat):Nat->Nat->Nat
 |0,k=>k
 |n+1,k=>if cell m C k j=0 then elK m C j n (k+1) else k
theorem Zqw (h:cell m C k j=0):elK m C j (n+1) k=elK m C j n (k+1):=by simp only[elK];rw[if_pos h]
theorem Zrw (h:cell m C k j≠0):elK m C j n k=k:=by
 cases n with
 |zero=>rfl
 |succ n=>simp only[elK];rw[if_neg h]
def ZaV (m:List Int) (C t k:Nat):List Int:=if k=t then m else swR m C k t
theorem ZqT (m:List Int) (C t k:Nat):(ZaV m C t k).length=m.length:=by
 unfold ZaV;split
 ·rfl
 ·exact Zbe ..
theorem Zfg {f:Nat->Int} {i i':Nat} (hl:m.length=R*C) (hi:i<R) (hk:k<=C) (hj:j<C) (h:i'≠i\/k<=j):cell (ZC f (i*C) k m) C i' j=cell m C i' j:=by
 unfold cell;have h1:i*C+k<=m.length:=by have:(i+1)*C<=R*C:=Nat.mul_le_mul_right _ hi;rw[Nat.add_mul] at this;omega
 rw[Zbc h1,if_neg];rintro ⟨h2,h3⟩;obtain ⟨e1,e2⟩:=Zc5 (i:=i') (i':=i) (j:=j) (j':=i'*C+j-i*C) hj (by omega) (by omega);rcases h with h|h
 ·exact h e1
 ·subst e1;omega
theorem Zej {fn:Func} {R:Ending->World->Prop} {ty:TypeId} {cs:Array Value} {p u v:Tmp} {g:Nat} (hT:StT P ty cs.size) (h:fn.results= #[.cell p ty, .tmp u, .tmp v]) (hd:a.defers=[]) (hp:a.tmps.getD p undef= .pointer (some ⟨g,0,none⟩))
  (hb:Blk w g cs t) (hR:R (.returned (.tuple #[.agg cs,a.tmps.getD u undef,a.tmps.getD v undef])) w):bodyPost P fn R .ret a w:=by
 have hp':a.tmps[p]?.getD undef= .pointer (some ⟨g,0,none⟩):=by simpa using hp
 refine bodyPost_ret (v:= .tuple #[.agg cs,a.tmps.getD u undef,a.tmps.getD v undef]) ?_ hd hR;simp[results,h,hp',asAddr,hT.load hb]

end Go.Proofs.YtjpcgofidijigaaGreatDoor
