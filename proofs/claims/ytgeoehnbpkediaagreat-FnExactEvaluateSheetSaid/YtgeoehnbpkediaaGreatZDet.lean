/- Determinants by expansion along the first row: plain. -/
import Derived.Test.YtgeoehnbpkediaaGreatZHerm
namespace Go.Proofs.YtgeoehnbpkediaaGreat
open Go.RowKit
def ZI (m:List Int) (C p q i:Nat):Nat->List Int->List Int
 |0,l=>l
 |j+1,l=>if i≠p/\j≠q then ZI m C p q i j l++[cell m C i j] else ZI m C p q i j l
def Zv (m:List Int) (C p q:Nat):Nat->List Int
 |0=>[]
 |i+1=>ZI m C p q i C (Zv m C p q i)
theorem ZfJ {m:List Int} {C p q i:Nat} (hi:i≠p): ∀ {j:Nat} {l:List Int},(ZI m C p q i j l).length=l.length+(if q<j then j-1 else j)
 |0,l=>by simp[ZI]
 |j+1,l=>by
  simp only[ZI]
  by_cases e:j=q
  ·rw[if_neg (by omega),ZfJ hi,if_neg (by omega),if_pos (by omega)];omega
  ·rw[if_pos ⟨hi,e⟩,List.length_append,ZfJ hi]
   by_cases e2:q<j
   ·rw[if_pos e2,if_pos (by omega)];simp;omega
   ·rw[if_neg e2,if_neg (by omega)];simp;omega
theorem Zg5 {m:List Int} {C p q:Nat}: ∀ {j:Nat} {l:List Int},ZI m C p q p j l=l
 |0,_=>rfl
 |j+1,l=>by simp only[ZI];rw[if_neg (by omega)];exact Zg5
theorem Zeq {m:List Int} {C p q:Nat} (hq:q<C): ∀ {i:Nat},(Zv m C p q i).length=(if p<i then i-1 else i)*(C-1)
 |0=>by simp[Zv]
 |i+1=>by
  simp only[Zv]
  by_cases e:i=p
  ·subst e
   rw[Zg5,Zeq hq,if_neg (by omega),if_pos (by omega)];rfl
  ·rw[ZfJ e,Zeq hq,if_pos hq]
   by_cases e2:p<i
   ·rw[if_pos e2,if_pos (by omega)]
    have:i+1-1=(i-1)+1:=by omega
    rw[this,Nat.add_mul,Nat.one_mul]
   ·rw[if_neg e2,if_neg (by omega),Nat.add_mul,Nat.one_mul]
theorem ZfK {m:List Int} {C p q i:Nat} (hm:NumL m): ∀ {j:Nat} {l:List Int},NumL l->NumL (ZI m C p q i j l)
 |0,_,h=>h
 |j+1,l,h=>by
  simp only[ZI]
  split
  ·intro x hx
   rcases List.mem_append.1 hx with h1|h1
   ·exact ZfK hm h x h1
   ·rw[List.mem_singleton.1 h1];exact Zt hm C i j
  ·exact ZfK hm h
theorem Zdu {m:List Int} {C p q:Nat} (hm:NumL m): ∀ {i:Nat},NumL (Zv m C p q i)
 |0=>fun x hx=>by cases hx
 |i+1=>ZfK hm (Zdu hm)
def ZbY (f:List Int->Option Int) (m:List Int) (n:Nat):Nat->Option Int
 |0=>some 0
 |k+1=>(ZbY f m n k).bind fun s=>if m.getD k 0=0 then some s else (f (Zv m n 0 k n)).map fun d=>s+(if k%2=1 then -m.getD k 0 else m.getD k 0)*d
def ZeM (s:Int):Option Int:=if -400000000<=s/\s<=400000000 then some s else none
def Zak:Nat->List Int->Option Int
 |0,_=>some 1
 |n+1,m=>(ZbY (Zak n) m (n+1) (n+1)).bind ZeM
theorem Zko {s d:Int} (h:ZeM s=some d):d=s/\ -400000000<=d/\d<=400000000:=by
 unfold ZeM at h
 split at h
 ·rename_i h1;have:=Option.some.inj h;omega
 ·cases h
theorem Zcg: ∀ {n:Nat} {m:List Int} {d:Int},Zak n m=some d-> -400000000<=d/\d<=400000000
 |0,m,d,h=>by have:=Option.some.inj (show some (1:Int)=some d from h);omega
 |n+1,m,d,h=>by
  simp only[Zak] at h
  cases hs:ZbY (Zak n) m (n+1) (n+1) with
  |none=>rw[hs] at h;cases h
  |some s=>rw[hs] at h;exact (Zko h).2
theorem Zao {a b p q:Int} (ha: -p<=a/\a<=p) (hb: -q<=b/\b<=q): -(p*q)<=a*b/\a*b<=p*q:=by
 have h1:a.natAbs<=p.natAbs:=by omega
 have h2:b.natAbs<=q.natAbs:=by omega
 have h3:=Nat.mul_le_mul h1 h2
 rw[←Int.natAbs_mul, ←Int.natAbs_mul] at h3
 have h4:0<=p*q:=Int.mul_nonneg (by omega) (by omega)
 omega
theorem Zij {n:Nat} {m:List Int} (hm:NumL m): ∀ {k:Nat} {s:Int},ZbY (Zak n) m (n+1) k=some s-> -(160000000000000000*k)<=s/\s<=160000000000000000*k
 |0,s,h=>by have:=Option.some.inj (show some (0:Int)=some s from h);omega
 |k+1,s,h=>by
  simp only[ZbY] at h
  cases hs:ZbY (Zak n) m (n+1) k with
  |none=>rw[hs] at h;cases h
  |some s0=>
   have ih:=Zij hm hs
   rw[hs,Option.bind_some] at h
   by_cases e:m.getD k 0=0
   ·rw[if_pos e] at h
    have:=Option.some.inj h
    omega
   ·rw[if_neg e] at h
    cases hd:Zak n (Zv m (n+1) 0 k (n+1)) with
    |none=>rw[hd] at h;cases h
    |some d=>
     rw[hd,Option.map_some] at h
     have h1:=Option.some.inj h
     have h2:=Zcg hd
     have h3: -400000000<=m.getD k 0/\m.getD k 0<=400000000:=hm.getD k
     have h4: -400000000<=(if k%2=1 then -m.getD k 0 else m.getD k 0)/\(if k%2=1 then -m.getD k 0 else m.getD k 0)<=400000000:=by split<;>omega
     have h5:=Zao h4 h2
     omega
theorem Zk3 {f:List Int->Option Int} {m:List Int} {n k j:Nat} (h:ZbY f m n k=none) (hj:k<=j):ZbY f m n j=none:=by
 induction j with
 |zero=>
  obtain rfl:k=0:=by omega
  exact h
 |succ j ih=>
  by_cases e:k=j+1
  ·subst e;exact h
  ·simp only[ZbY];rw[ih (by omega)];rfl

end Go.Proofs.YtgeoehnbpkediaaGreat
