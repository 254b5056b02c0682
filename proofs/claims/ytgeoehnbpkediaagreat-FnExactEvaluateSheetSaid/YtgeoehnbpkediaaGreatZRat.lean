/- Fractions in lowest terms, and the account of a form: plain. (0, 0) stands for none. -/
import Derived.Test.YtgeoehnbpkediaaGreatZDet
namespace Go.Proofs.YtgeoehnbpkediaaGreat
open Go.RowKit
abbrev Rt:=Int×Int
def isR (r:Rt):Bool:=decide (1<=r.2/\r.2<=400000000)&&(Zq r.1&&decide (Int.gcd r.1 r.2=1))
def rt0:Rt:=(0,0)
def sgD (n d:Int):Int:=if d<0 then -((Int.gcd n d:Nat):Int) else ((Int.gcd n d:Nat):Int)
def Zbp (n d:Int):Rt:=if isR (n.tdiv (sgD n d),d.tdiv (sgD n d))=true then (n.tdiv (sgD n d),d.tdiv (sgD n d)) else rt0
def Zar (a b:Rt):Rt:=if isR a&&isR b then Zbp (a.1*b.2+b.1*a.2) (a.2*b.2) else rt0
def Zav (a:Rt):Rt:=if isR a then (-a.1,a.2) else rt0
def Zo (a b:Rt):Rt:=if isR a&&isR b then Zbp (a.1*b.1) (a.2*b.2) else rt0
def Za2 (a b:Rt):Rt:=if isR a&&(isR b&& !decide (b.1=0)) then Zbp (a.1*b.2) (a.2*b.1) else rt0
def ZY (a b:Rt):Int:=if isR a&&isR b then (if a.1*b.2<b.1*a.2 then -1 else if b.1*a.2<a.1*b.2 then 1 else 0) else 2
def Zat (a:Rt):Int:=if isR a then (2*a.1+a.2)/(2*a.2) else 0
theorem ZaA {r:Rt}:isR r=true↔(1<=r.2/\r.2<=400000000)/\(-400000000<=r.1/\r.1<=400000000)/\Int.gcd r.1 r.2=1:=by
 unfold isR
 rw[Bool.and_eq_true,Bool.and_eq_true,decide_eq_true_eq,decide_eq_true_eq,ZS]
theorem ZkU (a:Rt): -400000000<=Zat a/\Zat a<=400000000:=by
 unfold Zat
 split
 ·rename_i h
  obtain ⟨h1,h2, -⟩:=ZaA.1 h
  constructor
  ·refine Int.le_ediv_of_mul_le (by omega) ?_
   have: -400000000*(2*a.2)<= -400000000*2:=by omega
   omega
  ·refine Int.lt_add_one_iff.1 (Int.ediv_lt_of_lt_mul (by omega) ?_)
   omega
 ·omega
def rAt (l:List Rt) (k:Nat):Rt:=l.getD k rt0
def Zb8 (mu:List (List Rt)) (s row:List Rt) (i j:Nat):Nat->Rt->Rt
 |0,r=>r
 |k+1,r=>Zar (Zb8 mu s row i j k r) (Zav (Zo (Zo (rAt row k) (if j=i then rAt row k else rAt (mu.getD j []) k)) (rAt s k)))
def Zbq (g:List Int) (n:Nat) (mu:List (List Rt)) (s:List Rt) (i:Nat):Nat->Option (List Rt)
 |0=>some []
 |j+1=>(Zbq g n mu s i j).bind fun row=>if isR (Zb8 mu s row i j j (cell g n i j,1)) then some (row++[Za2 (Zb8 mu s row i j j (cell g n i j,1)) (rAt s j)]) else none
def Zay (g:List Int) (n:Nat):Nat->Option (List (List Rt)×List Rt)
 |0=>some ([],[])
 |i+1=>(Zay g n i).bind fun o=>(Zbq g n o.1 o.2 i i).bind fun row=>
   if isR (Zb8 o.1 o.2 row i i i (cell g n i i,1))&&decide (0<(Zb8 o.1 o.2 row i i i (cell g n i i,1)).1) then some (o.1++[row],o.2++[Zb8 o.1 o.2 row i i i (cell g n i i,1)]) else none
theorem ZfG {g:List Int} {n i:Nat} {mu:List (List Rt)} {s:List Rt}: ∀ {j:Nat} {row:List Rt},Zbq g n mu s i j=some row->row.length=j
 |0,row,h=>by rw[←Option.some.inj (show some []=some row from h)];rfl
 |j+1,row,h=>by
  simp only[Zbq] at h
  cases h1:Zbq g n mu s i j with
  |none=>rw[h1] at h;cases h
  |some r0=>
   rw[h1,Option.bind_some] at h
   split at h
   ·rw[←Option.some.inj h];simp[ZfG h1]
   ·cases h
theorem Zc9 {g:List Int} {n:Nat}: ∀ {i:Nat} {o:List (List Rt)×List Rt},Zay g n i=some o->o.1.length=i/\o.2.length=i/\ ∀ (k:Nat) (row:List Rt),o.1[k]? =some row->row.length=k
 |0,o,h=>by rw[←Option.some.inj (show some ([],[])=some o from h)];exact ⟨rfl,rfl,fun k row hk=>by simp at hk⟩
 |i+1,o,h=>by
  simp only[Zay] at h
  cases h1:Zay g n i with
  |none=>rw[h1] at h;cases h
  |some o0=>
   rw[h1,Option.bind_some] at h
   cases h2:Zbq g n o0.1 o0.2 i i with
   |none=>rw[h2] at h;cases h
   |some row=>
    rw[h2,Option.bind_some] at h
    split at h
    ·obtain ⟨a1,a2,a3⟩:=Zc9 h1
     rw[←Option.some.inj h]
     refine ⟨by simp[a1],by simp[a2],fun k r hk=> ?_⟩
     by_cases e:k<i
     ·rw[List.getElem?_append_left (by omega)] at hk;exact a3 k r hk
     ·rw[List.getElem?_append_right (by omega)] at hk
      have e2:k=i:=by
       rcases Nat.eq_zero_or_pos (k-i) with h0|h0
       ·omega
       ·rw[List.getElem?_eq_none (by simp;omega)] at hk;cases hk
      subst e2
      simp[a1] at hk
      rw[←hk];exact ZfG h2
    ·cases h

end Go.Proofs.YtgeoehnbpkediaaGreat
