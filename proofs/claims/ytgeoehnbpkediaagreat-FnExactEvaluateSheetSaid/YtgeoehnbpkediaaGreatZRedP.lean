/- Reduced forms: plain. A form's rows and columns are changed together, as the program does it. -/
import Derived.Test.YtgeoehnbpkediaaGreatZRat
import Derived.Test.YtgeoehnbpkediaaGreatZSmith
import Derived.Test.YtgeoehnbpkediaaGreatZStack
import Derived.Test.YtgeoehnbpkediaaGreatZTurn
namespace Go.Proofs.YtgeoehnbpkediaaGreat
open Go.RowKit
variable {S:SS} {j k n:Nat}
def ZaQ (g:List Int) (n:Nat):Nat->Option (List Int)
 |0=>some []
 |k+1=>(ZaQ g n k).bind fun l=>(Zak (k+1) (ZbG g n (k+1) (k+1))).map fun d=>l++[d]
def Z9 (m:Mat):Bool:=Zg m&&(decide (m.rows=m.cols)&&decide (m.rows<=6))
def Zbk (m:Mat):Bool:=Z9 m&&Zcm (Zbm m) m
def Zb1 (m:Mat):Bool:=Zbk m&&(match ZaQ m.cells m.rows.toNat m.rows.toNat with
 |some l=>l.all fun d=>decide (0<d)
 |none=>false)
def ZcV (row:List Rt):Nat->Option (Option (Nat×Int))
 |0=>some none
 |j+1=>if isR (rAt row j) then (if Zat (rAt row j)=0 then ZcV row j else some (some (j,Zat (rAt row j)))) else none
def ZbO (n k j:Nat) (t:Int) (S:SS):Option SS:=(ZaM n n k j t S).bind (Zbf n n k j t)
def Zc3 (n k j:Nat) (S:SS):SS:=ZeD n n k j (ZbJ n n k j S)
def muAt (o:List (List Rt)×List Rt) (i j:Nat):Rt:=rAt (o.1.getD i []) j
def Zcl (o:List (List Rt)×List Rt) (k:Nat):Rt:=Zo (Zar (3,4) (Zav (Zo (muAt o k (k-1)) (muAt o k (k-1))))) (rAt o.2 (k-1))
def Za6 (n k:Nat) (o:List (List Rt)×List Rt) (S:SS):Option (SS×Nat):=
 (ZcV (o.1.getD k []) k).bind fun x=>match x with
  |some jt=>(ZbO n k jt.1 (-jt.2) S).map fun S'=>(S',k)
  |none=>if ZY (rAt o.2 k) (Zcl o k)=2 then none else if ZY (rAt o.2 k) (Zcl o k)= -1 then some (Zc3 n k (k-1) S,max 1 (k-1)) else some (S,k+1)
def ZbC (n:Nat):Nat->Nat->SS->Option SS
 |0,k,S=>if k<n then none else some S
 |f+1,k,S=>if k<n then (Zay S.1 n n).bind fun o=>(Za6 n k o S).bind fun r=>ZbC n f r.2 r.1 else some S
def Zbn (g:Mat):Option SS:=if Zb1 g then ZbC g.rows.toNat 200 1 (g.cells,idL g.rows.toNat,idL g.rows.toNat) else none
def ZaK (b:Mat):Bool:=Zg b&&Zad b (Zbm b)
def ZaE (b:Mat):Mat:=if Zg b then Zax b (Zbm b) else {rows:=0,cols:=0,cells:=[]}
def Zgm (b:Mat):Option Mat:=if ZaK b then (Zbn (ZaE b)).map fun S=>{rows:=b.rows,cols:=b.rows,cells:=S.2.1} else none
def Zbh (b:Mat):Bool:=match Zgm b with
 |some u=>Zad u b
 |none=>false
def Za1 (b:Mat):Mat:=match Zgm b with
 |some u=>if Zad u b then Zax u b else {rows:=0,cols:=0,cells:=[]}
 |none=>{rows:=0,cols:=0,cells:=[]}
theorem Ziu (a b:Rt):ZY a b=2\/ZY a b= -1\/ZY a b=0\/ZY a b=1:=by
 unfold ZY
 repeat' split
 all_goals simp
theorem Zkt {t:Int} {S':SS} (h:Ss n n S) (he:ZbO n k j t S=some S'):Ss n n S':=by
 unfold ZbO at he
 cases h1:ZaM n n k j t S with
 |none=>rw[h1] at he;cases he
 |some S1=>
  rw[h1,Option.bind_some] at he
  exact (Zey (ZcB h h1).1 he).1
theorem Zki (h:Ss n n S):Ss n n (Zc3 n k j S):=Zfo (Zdv h)
theorem Zk5 {o:List (List Rt)×List Rt} {r:SS×Nat} (h:Ss n n S) (hk:1<=k) (he:Za6 n k o S=some r):Ss n n r.1/\1<=r.2/\r.2<=k+1:=by
 unfold Za6 at he
 cases hf:ZcV (o.1.getD k []) k with
 |none=>rw[hf] at he;cases he
 |some x=>
  rw[hf,Option.bind_some] at he
  cases x with
  |some jt=>
   simp only at he
   cases hb:ZbO n k jt.1 (-jt.2) S with
   |none=>rw[hb] at he;cases he
   |some S'=>
    rw[hb,Option.map_some] at he
    rw[←Option.some.inj he]
    exact ⟨Zkt h hb,hk,by show k<=k+1;omega⟩
  |none=>
   simp only at he
   split at he
   ·cases he
   ·split at he
    ·rw[←Option.some.inj he];exact ⟨Zki h,by show 1<=max 1 (k-1);omega,by show max 1 (k-1)<=k+1;omega⟩
    ·rw[←Option.some.inj he];exact ⟨h,by show 1<=k+1;omega,Nat.le_refl _⟩

end Go.Proofs.YtgeoehnbpkediaaGreat
