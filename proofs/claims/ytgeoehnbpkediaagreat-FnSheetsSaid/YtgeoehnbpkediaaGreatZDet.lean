/- Determinants by expansion along the first row: plain. -/
import Derived.Test.YtgeoehnbpkediaaGreatZHerm
namespace Go.Proofs.YtgeoehnbpkediaaGreat
open Go.RowKit
def ZE (m:List Int) (C p q i:Nat):Nat->List Int->List Int
 |0,l=>l
 |j+1,l=>if i≠p/\j≠q then ZE m C p q i j l++[cell m C i j] else ZE m C p q i j l
def Zv (m:List Int) (C p q:Nat):Nat->List Int
 |0=>[]
 |i+1=>ZE m C p q i C (Zv m C p q i)
theorem Zgx {m:List Int} {C p q i:Nat} (hi:i≠p): ∀ {j:Nat} {l:List Int},(ZE m C p q i j l).length=l.length+(if q<j then j-1 else j)
 |0,l=>by simp[ZE]
 |j+1,l=>by
  simp only[ZE];by_cases e:j=q
  ·rw[if_neg (by omega),Zgx hi,if_neg (by omega),if_pos (by omega)];omega
  ·rw[if_pos ⟨hi,e⟩,List.length_append,Zgx hi];by_cases e2:q<j
   ·rw[if_pos e2,if_pos (by omega)];simp;omega
   ·rw[if_neg e2,if_neg (by omega)];simp;omega
theorem ZhC {m:List Int} {C p q:Nat}: ∀ {j:Nat} {l:List Int},ZE m C p q p j l=l
 |0,_=>rfl
 |j+1,l=>by simp only[ZE];rw[if_neg (by omega)];exact ZhC
theorem ZeR {m:List Int} {C p q:Nat} (hq:q<C): ∀ {i:Nat},(Zv m C p q i).length=(if p<i then i-1 else i)*(C-1)
 |0=>by simp[Zv]
 |i+1=>by
  simp only[Zv];by_cases e:i=p
  ·subst e;rw[ZhC,ZeR hq,if_neg (by omega),if_pos (by omega)];rfl
  ·rw[Zgx e,ZeR hq,if_pos hq];by_cases e2:p<i
   ·rw[if_pos e2,if_pos (by omega)];have:i+1-1=(i-1)+1:=(by omega);rw[this,Nat.add_mul,Nat.one_mul]
   ·rw[if_neg e2,if_neg (by omega),Nat.add_mul,Nat.one_mul]
theorem Zgb {m:List Int} {C p q i:Nat} (hm:NumL m): ∀ {j:Nat} {l:List Int},NumL l->NumL (ZE m C p q i j l)
 |0,_,h=>h
 |j+1,l,h=>by
  simp only[ZE];split
  ·intro x hx;rcases List.mem_append.1 hx with h1|h1
   ·exact Zgb hm h x h1
   ·rw[List.mem_singleton.1 h1];exact Zr hm C i j
  ·exact Zgb hm h
theorem ZdK {m:List Int} {C p q:Nat} (hm:NumL m): ∀ {i:Nat},NumL (Zv m C p q i)
 |0=>fun x hx=>by cases hx
 |i+1=>Zgb hm (ZdK hm)
def Zcf (f:List Int->Option Int) (m:List Int) (n:Nat):Nat->Option Int
 |0=>some 0
 |k+1=>(Zcf f m n k).bind fun s=>if m.getD k 0=0 then some s else (f (Zv m n 0 k n)).map fun d=>s+(if k%2=1 then -m.getD k 0 else m.getD k 0)*d
def ZeY (s:Int):Option Int:=if -400000000<=s/\s<=400000000 then some s else none
def Zak:Nat->List Int->Option Int
 |0,_=>some 1
 |n+1,m=>(Zcf (Zak n) m (n+1) (n+1)).bind ZeY
theorem Zk5 {s d:Int} (h:ZeY s=some d):d=s/\ -400000000<=d/\d<=400000000:=by
 unfold ZeY at h;split at h
 ·rename_i h1;have:=Option.some.inj h;omega
 ·cases h
theorem Zcy: ∀ {n:Nat} {m:List Int} {d:Int},Zak n m=some d-> -400000000<=d/\d<=400000000
 |0,m,d,h=>by have:=Option.some.inj (show some (1:Int)=some d from h);omega
 |n+1,m,d,h=>by
  simp only[Zak] at h;cases hs:Zcf (Zak n) m (n+1) (n+1) with
  |none=>rw[hs] at h;cases h
  |some s=>rw[hs] at h;exact (Zk5 h).2
theorem Zbm {a b p q:Int} (ha: -p<=a/\a<=p) (hb: -q<=b/\b<=q): -(p*q)<=a*b/\a*b<=p*q:=by
 have h1:a.natAbs<=p.natAbs:=by omega
 have h2:b.natAbs<=q.natAbs:=by omega
 have h3:=Nat.mul_le_mul h1 h2;rw[←Int.natAbs_mul, ←Int.natAbs_mul] at h3;have h4:0<=p*q:=Int.mul_nonneg (by omega) (by omega);omega
theorem ZiF {n:Nat} {m:List Int} (hm:NumL m): ∀ {k:Nat} {s:Int},Zcf (Zak n) m (n+1) k=some s-> -(160000000000000000*k)<=s/\s<=160000000000000000*k
 |0,s,h=>by have:=Option.some.inj (show some (0:Int)=some s from h);omega
 |k+1,s,h=>by
  simp only[Zcf] at h;cases hs:Zcf (Zak n) m (n+1) k with
  |none=>rw[hs] at h;cases h
  |some s0=>
   have ih:=ZiF hm hs;rw[hs,Option.bind_some] at h;by_cases e:m.getD k 0=0
   ·rw[if_pos e] at h;have:=Option.some.inj h;omega
   ·rw[if_neg e] at h;cases hd:Zak n (Zv m (n+1) 0 k (n+1)) with
    |none=>rw[hd] at h;cases h
    |some d=>rw[hd,Option.map_some] at h;have h1:=Option.some.inj h;have h2:=Zcy hd;have h3: -400000000<=m.getD k 0/\m.getD k 0<=400000000:=hm.getD k;have h4: -400000000<=(if k%2=1 then -m.getD k 0 else m.getD k 0)/\(if k%2=1 then -m.getD k 0 else m.getD k 0)<=400000000:=(by split<;>omega);have h5:=Zbm h4 h2;omega
theorem ZlZ {f:List Int->Option Int} {m:List Int} {n k j:Nat} (h:Zcf f m n k=none) (hj:k<=j):Zcf f m n j=none:=by
 induction j with
 |zero=>
  obtain rfl:k=0:=by omega
  exact h
 |succ j ih=>
  by_cases e:k=j+1
  ·subst e;exact h
  ·simp only[Zcf];rw[ih (by omega)];rfl
abbrev Rt:=Int×Int
def isR (r:Rt):Bool:=decide (1<=r.2/\r.2<=400000000)&&(Zq r.1&&decide (Int.gcd r.1 r.2=1))
def rt0:Rt:=(0,0)
def sgD (n d:Int):Int:=if d<0 then -((Int.gcd n d:Nat):Int) else ((Int.gcd n d:Nat):Int)
def Zdr (n d:Int):Rt:=if isR (n.tdiv (sgD n d),d.tdiv (sgD n d))=true then (n.tdiv (sgD n d),d.tdiv (sgD n d)) else rt0
def Za4 (a b:Rt):Rt:=if isR a&&isR b then Zdr (a.1*b.2+b.1*a.2) (a.2*b.2) else rt0
def ZaJ (a:Rt):Rt:=if isR a then (-a.1,a.2) else rt0
def Zz (a b:Rt):Rt:=if isR a&&isR b then Zdr (a.1*b.1) (a.2*b.2) else rt0
def ZcE (a b:Rt):Rt:=if isR a&&(isR b&& !decide (b.1=0)) then Zdr (a.1*b.2) (a.2*b.1) else rt0
def ZZ (a b:Rt):Int:=if isR a&&isR b then (if a.1*b.2<b.1*a.2 then -1 else if b.1*a.2<a.1*b.2 then 1 else 0) else 2
def Zav (a:Rt):Int:=if isR a then (2*a.1+a.2)/(2*a.2) else 0
theorem ZcN {r:Rt}:isR r=true↔(1<=r.2/\r.2<=400000000)/\(-400000000<=r.1/\r.1<=400000000)/\Int.gcd r.1 r.2=1:=by
 unfold isR;rw[Bool.and_eq_true,Bool.and_eq_true,decide_eq_true_eq,decide_eq_true_eq,ZT]
theorem ZlO (a:Rt): -400000000<=Zav a/\Zav a<=400000000:=by
 unfold Zav;split
 ·rename_i h;obtain ⟨h1,h2, -⟩:=ZcN.1 h;constructor
  ·refine Int.le_ediv_of_mul_le (by omega) ?_;have: -400000000*(2*a.2)<= -400000000*2:=(by omega);omega
  ·refine Int.lt_add_one_iff.1 (Int.ediv_lt_of_lt_mul (by omega) ?_);omega
 ·omega
def rAt (l:List Rt) (k:Nat):Rt:=l.getD k rt0
def Zcq (mu:List (List Rt)) (s row:List Rt) (i j:Nat):Nat->Rt->Rt
 |0,r=>r
 |k+1,r=>Za4 (Zcq mu s row i j k r) (ZaJ (Zz (Zz (rAt row k) (if j=i then rAt row k else rAt (mu.getD j []) k)) (rAt s k)))
def Zbx (g:List Int) (n:Nat) (mu:List (List Rt)) (s:List Rt) (i:Nat):Nat->Option (List Rt)
 |0=>some []
 |j+1=>(Zbx g n mu s i j).bind fun row=>if isR (Zcq mu s row i j j (cell g n i j,1)) then some (row++[ZcE (Zcq mu s row i j j (cell g n i j,1)) (rAt s j)]) else none
def Zax (g:List Int) (n:Nat):Nat->Option (List (List Rt)×List Rt)
 |0=>some ([],[])
 |i+1=>(Zax g n i).bind fun o=>(Zbx g n o.1 o.2 i i).bind fun row=>
   if isR (Zcq o.1 o.2 row i i i (cell g n i i,1))&&decide (0<(Zcq o.1 o.2 row i i i (cell g n i i,1)).1) then some (o.1++[row],o.2++[Zcq o.1 o.2 row i i i (cell g n i i,1)]) else none
theorem Zf1 {g:List Int} {n i:Nat} {mu:List (List Rt)} {s:List Rt}: ∀ {j:Nat} {row:List Rt},Zbx g n mu s i j=some row->row.length=j
 |0,row,h=>by rw[←Option.some.inj (show some []=some row from h)];rfl
 |j+1,row,h=>by
  simp only[Zbx] at h;cases h1:Zbx g n mu s i j with
  |none=>rw[h1] at h;cases h
  |some r0=>
   rw[h1,Option.bind_some] at h;split at h
   ·rw[←Option.some.inj h];simp[Zf1 h1]
   ·cases h
theorem Zdx {g:List Int} {n:Nat}: ∀ {i:Nat} {o:List (List Rt)×List Rt},Zax g n i=some o->o.1.length=i/\o.2.length=i/\ ∀ (k:Nat) (row:List Rt),o.1[k]? =some row->row.length=k
 |0,o,h=>by rw[←Option.some.inj (show some ([],[])=some o from h)];exact ⟨rfl,rfl,fun k row hk=>by simp at hk⟩
 |i+1,o,h=>by
  simp only[Zax] at h;cases h1:Zax g n i with
  |none=>rw[h1] at h;cases h
  |some o0=>
   rw[h1,Option.bind_some] at h;cases h2:Zbx g n o0.1 o0.2 i i with
   |none=>rw[h2] at h;cases h
   |some row=>
    rw[h2,Option.bind_some] at h;split at h
    ·obtain ⟨a1,a2,a3⟩:=Zdx h1;rw[←Option.some.inj h];refine ⟨by simp[a1],by simp[a2],fun k r hk=> ?_⟩;by_cases e:k<i
     ·rw[List.getElem?_append_left (by omega)] at hk;exact a3 k r hk
     ·rw[List.getElem?_append_right (by omega)] at hk;have e2:k=i:=by
       rcases Nat.eq_zero_or_pos (k-i) with h0|h0
       ·omega
       ·rw[List.getElem?_eq_none (by simp;omega)] at hk;cases hk
      subst e2;simp[a1] at hk;rw[←hk];exact Zf1 h2
    ·cases h

end Go.Proofs.YtgeoehnbpkediaaGreat
