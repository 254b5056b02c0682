/- The normal form of a vector over a basis: plain; the first place of a row that is not 0, both. -/
import Derived.Test.YtgjefeiddfjjnaaGreatDoorZStack
set_option maxHeartbeats 8000000
set_option maxRecDepth 100000
namespace Go.Proofs.YtgjefeiddfjjnaaGreatDoor
open Go.RowKit
open Lib (hid)
open Go.Value renaming int->Yv
open Go.IntKind renaming i64->Yi
open Grow renaming refl->JH
open Int renaming gcd->JS
open List renaming getElem?_eq_some_iff->K1,mem_of_getElem?->JX,mem_range->JW,mem_take_iff_getElem->Q4
open Nat renaming gcd_le_right->Q8,gcd_zero_right->Q7,le_refl->JM,zero_le->JI
open Go.Proofs.Tryz renaming func239->Q5,ntmps239->Q6,prog->JG
open Go.Proofs.Tryz
variable {C R i j k n t:Nat} {S:Nat->Prop} {a b x:Int} {m m' xs:List Int}
structure Bas (m:Mat) (C N:Nat) (b:List Int):Prop where
 eq:Zdr m={rows:=(N:Int),cols:=(C:Int),cells:=b}
 cols:m.cols=(C:Int)
 hC:C<=24
 hN:N<=24
 len:b.length=N*C
 num:NumL b
 full: ∀ i,i<N-> ∃ k,k<C/\cell b C i k≠0
def fz (xs:List Int):Nat:=xs.findIdx fun x=>x !=0
theorem Zwh (hx:xs[k]? =some x) (hne:x≠0) (hz: ∀ y∈xs.take k,y=0):fz xs=k:=by
 unfold fz;have b:k<xs.length:=(K1.1 hx).1;have a:xs[k]=x:=(K1.1 hx).2;rw[List.findIdx_eq b];refine ⟨by simp[a,hne],fun j d=> ?_⟩;have c:xs[j]∈xs.take k:=by rw[Q4];exact ⟨j,I,rfl⟩
 simp[hz _ c]
theorem Zq5 (h: ∃ x∈xs,x≠0):fz xs<xs.length:=by
 obtain ⟨x,b,a⟩:=h;exact List.findIdx_lt_length_of_exists ⟨x,b,by simp[a]⟩
theorem ZqX (h: ∃ x∈xs,x≠0): ∃ x,xs[fz xs]? =some x/\x≠0:=by
 have a:=Zq5 h;exact ⟨xs[fz xs],List.getElem?_eq_getElem a,fun e=>by
  have b:(fun x:Int=>x !=0) xs[fz xs]=true:=List.findIdx_getElem (w:=a);simp[e] at b⟩
theorem Zvu: ∀ y∈xs.take (fz xs),y=0:=fun y a=>by
 rw[Q4] at a;obtain ⟨j,b,rfl⟩:=a;have:=List.not_of_lt_findIdx (p:=fun x:Int=>x !=0) (xs:=xs) (i:=j) (by unfold fz at b;omega);exact Ji
def fcI (xs:List Int):Int:=if Zfp xs=true then -1 else (fz xs:Nat)
theorem ZoM (hx:xs[k]? =some x) (hne:x≠0) (hz: ∀ y∈xs.take k,y=0):fcI xs=(k:Int):=by
 unfold fcI;rw[Zj5 hx (by simp[hne]),Zwh hx hne hz];simp
theorem ZjK (a:Option Addr) (n cap:Nat) (xs:List Int) (w:World) (h:RdI w S a n cap xs) (hn:n<=2097152):
  Calls JG 174 #[.slice a n cap] w fun e w'=>e= .returned (Yv Yi (fcI xs))/\w=w':=by
 have c: ∀ (x:Int) (w:World),Calls JG 239 #[Yv Yi x] w fun e w'=>e= .returned (.bool (!(x==0)))/\w=w':=fun x w=>by
  by_cases hx:x=0
  ·subst hx;go_enter Q5,Q6;go_wp2;go_ret;exact ⟨Zm rfl,rfl⟩
  ·have l:(x==0)=false:=EC;have q:(x !=0)=true:=EC;clear hx;go_enter Q5,Q6;go_wp2;go_ret;exact ⟨Zm (by rw[l];rfl),rfl⟩
 have m:=hid h.len;have d:Calls JG 238 #[.slice a n cap, .func (.func 239) #[] #[]] w fun e w'=>e= .returned (Yv Yi (fcI xs))/\w=w':=by
  go_enter func238,ntmps238;go_wp2;go_loop [8] (fun i=> ∃ k:Nat,k<=n/\i=Yv Yi k/\ ∀ x∈xs.take k,(x==0)=true) (fun i=>n-(intOf i).toNat);case atStart=>exact ⟨0,JI _,rfl,Θ⟩
  case round=>
   obtain ⟨k,r,rfl,j⟩:=hrel;have He:=hid j;clear j;by_cases g:k<n
   ·obtain ⟨b,o,x,rfl,hx,s,_,t,v⟩:=h.at g;have Hx:=hid hx;clear hx;cases f:x==0 with
    |true=>
     have H0:=hid f;clear f;go_wp2_with fail;refine (c _ _).mono ?_;rintro e w' ⟨rfl,rfl⟩;rw[H0.out];go_wp2
     go_round
     case rel=>
      exact Iw
     case measure=>exact FN
    |false=>have H0:=hid f;clear f;go_wp2_with fail;refine (c _ _).mono ?_;rintro e w' ⟨rfl,rfl⟩;rw[H0.out];go_wp2;go_ret;exact ⟨by rw[ZoM Hx.out (by have:=H0.out;simpa using this) (fun y p=>by have:=He.out y p;simpa using this)];rfl,rfl⟩
   ·go_wp2;go_ret;have:k=n:=I;subst this;have:=He.out;rw[Z5 m.out] at this;exact ⟨by unfold fcI;rw[ZgH this];rfl,rfl⟩
 go_enter func174,ntmps174;go_wp2_with fail;refine d.mono ?_;rintro e w' ⟨rfl,rfl⟩;go_wp2;go_ret;exact Je
theorem ZlC (hl:m.length=R*C) (hi:i<R) (hf: ∃ k,k<C/\cell m C i k≠0): ∃ x∈Zag m C i,x≠0:=by
 obtain ⟨k,b,a⟩:=hf;exact ⟨_,JX (Zjq hl hi b),a⟩
theorem ZvR (hl:m.length=R*C) (hi:i<R) (hf: ∃ k,k<C/\cell m C i k≠0):fz (Zag m C i)<C/\cell m C i (fz (Zag m C i))≠0:=by
 have a:=Zq5 (ZlC hl hi hf);rw[Zea hl hi] at a;obtain ⟨x,c,b⟩:=ZqX (ZlC hl hi hf);rw[Zjq hl hi a] at c;exact ⟨a,by rw[Option.some.inj c];exact b⟩
theorem Zv8 (hl:m.length=R*C) (hi:i<R) (hf: ∃ k,k<C/\cell m C i k≠0):fcI (Zag m C i)=(fz (Zag m C i):Nat):=by
 obtain ⟨x,b,a⟩:=ZqX (ZlC hl hi hf);exact ZoM b a Zvu
def gI (x y:Int):Int:=((JS x y:Nat):Int)
theorem ZtO:Int.gcd b (a.tmod b)=JS a b:=by
 exact Jl
theorem Zvk (a:Int):JS a 0=a.natAbs:=by simp[JS]
theorem Zq0 (hb:b≠0):(a.tmod b).natAbs<b.natAbs:=by
 rw[Int.natAbs_tmod];exact Nat.mod_lt _ I
theorem Zum (ha: -400000000<=a/\a<=400000000): -400000000<=a.tmod b/\a.tmod b<=400000000:=by
 exact J8
theorem ZsR (a b:Int) (w:World) (ha: -400000000<=a/\a<=400000000) (hb: -400000000<=b/\b<=400000000):Calls JG 162 #[Yv Yi a,Yv Yi b] w fun e w'=>e= .returned (Yv Yi (gI a b))/\Grow w w':=by
 obtain ⟨G,c⟩:=eX (JS a b);have h:=hid (show gI a b=(G:Int) by rw[c];rfl);go_enter func162,ntmps162;go_wp2;go_loopw [0,1] (fun i d wr=>Grow w wr/\ ∃ x y:Int,i=Yv Yi x/\d=Yv Yi y/\(-400000000<=x/\x<=400000000)/\(-400000000<=y/\y<=400000000)/\JS x y=G) (fun _ d _=>(intOf d).natAbs);case atStart=>exact ⟨JH _,a,b,rfl,rfl,ha,hb,c.symm⟩
 case round=>
  clear ha hb c;obtain ⟨hGr,x,y,rfl,rfl,j,hy,f⟩:=hrel;have g:=hid f;clear f;by_cases h0:y=0
  ·have k:(y !=0)=false:=Av;have HE:=hid (show (x.natAbs:Int)=gI a b by rw[h.out, ←g.out,h0,Zvk]);go_wp2_with fail;refine (Zd9 x _ I).mono ?_;exact I8
  ·have k:(y !=0)=true:=Av;have hm:=Zum (b:=y) j;have l:=Zq0 (a:=x) h0;have Hs:=hid (show JS y (x.tmod y)=G by rw[ZtO,g.out]);go_wp2;exact G7
def Zbb (m:List Int) (C i:Nat):Nat->Nat
 |0=>0
 |n+1=>Nat.gcd (Zbb m C i n) (cell m C i n).natAbs
def ZcT (m:List Int) (C i:Nat):Int:=if 0<=cell m C i (fz (Zag m C i)) then (Zbb m C i C:Int) else -(Zbb m C i C:Int)
def Za0 (m:List Int) (C i k:Nat):Int:=(cell m C i k).tdiv (ZcT m C i)
def Zb8 (m:List Int) (C i:Nat):List Int:=if Zbb m C i C=0 then m else Zz (Za0 m C i) (i*C) C m
def Za8 (m:List Int) (C:Nat):Nat->List Int
 |0=>m
 |n+1=>Zb8 (Za8 m C n) C n
theorem Zmo (m:List Int) (C i:Nat):(Zb8 m C i).length=m.length:=by unfold Zb8;split;rfl;exact ZM ..
theorem Zfu {y:Int} (hx: -400000000<=x/\x<=400000000): -400000000<=x.tdiv y/\x.tdiv y<=400000000:=by
 have a:(x.tdiv y).natAbs=x.natAbs/y.natAbs:=Int.natAbs_tdiv ..;have b:=Nat.div_le_self x.natAbs y.natAbs;omega
theorem Zsp (h:NumL m) (k:Nat): -400000000<=Za0 m C i k/\Za0 m C i k<=400000000:=Zfu (Zk h C i k)
theorem ZmF (h:NumL m):NumL (Zb8 m C i):=by
 unfold Zb8;split
 ·exact h
 ·intro x a;rcases Zee a with a|⟨k,_,rfl⟩
  ·exact h x a
  ·exact Zsp h k
theorem Zfn (m:List Int) (C:Nat): ∀ n,(Za8 m C n).length=m.length
 |0=>rfl
 |n+1=>by simp only[Za8];rw[Zmo,Zfn m C n]
theorem ZjJ {m:List Int} {C:Nat} (h:NumL m): ∀ n,NumL (Za8 m C n)
 |0=>h
 |n+1=>ZmF (ZjJ h n)
theorem ZhY {m:List Int} {C i:Nat} (h:NumL m): ∀ n,Zbb m C i n<=400000000
 |0=>by simp[Zbb]
 |n+1=>by
  simp only[Zbb];by_cases h0:(cell m C i n).natAbs=0
  ·rw[h0,Q7];exact ZhY h n
  ·have h1:=Q8 (Zbb m C i n) (show 0<(cell m C i n).natAbs by omega);have h2:=Zk h C i n;omega
theorem Zms {m:List Int} {C i:Nat}: ∀ {n:Nat},Zbb m C i n=0↔ ∀ k,k<n->cell m C i k=0
 |0=>by simp[Zbb]
 |n+1=>by
  simp only[Zbb];rw[Nat.gcd_eq_zero_iff,Zms (n:=n)];constructor
  ·rintro ⟨h1,h2⟩ k hk;by_cases e:k=n
   ·subst e;omega
   ·exact h1 k I
  ·intro h;exact ⟨fun k hk=>h k I,by have:=h n I;omega⟩
theorem ZrP (m:List Int) (C i n:Nat):gI ((Zbb m C i n:Nat):Int) (cell m C i n)=((Zbb m C i (n+1):Nat):Int):=by
 unfold gI JS;simp[Zbb]
def elG (m:List Int) (C i t j:Nat):Int:=gI (cell m C i j) (cell m C t j)
def elW (m:List Int) (C i t j k:Nat):Int:=(cell m C t j).tdiv (elG m C i t j)*cell m C i k-(cell m C i j).tdiv (elG m C i t j)*cell m C t k
def Zd3 (m:List Int) (C i t j:Nat):Bool:=(List.range C).all fun k=>Zi (elW m C i t j k)
def Zdj (m:List Int) (C i t j:Nat):List Int:=Zb8 (Zz (elW m C i t j) (i*C) C m) C i
def Zaf (C j t:Nat):Nat->List Int->Option (List Int)
 |0,m=>some m
 |n+1,m=>match Zaf C j t n m with
  |none=>none
  |some m'=>if n=t\/cell m' C n j=0 then some m' else if Zd3 m' C n t j=true then some (Zdj m' C n t j) else none
def ecN (C R:Nat):Nat->Nat->Nat->List Int->Option (Nat×List Int)
 |0,_,t,m=>some (t,m)
 | n + 1, j, t, m => if t < R then (if elK m C j (R - t) t = R then ecN C R n (j + 1) t m else match Zaf C j t R (Zbs m C t (elK m C j (R - t) t)) with
   |none=>none
   |some m'=>ecN C R n (j+1) (t+1) m') else some (t,m)
def ZfI (m:Mat):Option (Nat×List Int):=if Zd m=true then ecN m.cols.toNat m.rows.toNat m.cols.toNat 0 0 (Za8 m.cells m.cols.toNat m.rows.toNat) else none
def Zia (m:Mat):Bool:=(ZfI m).isSome
def ecT (m:Mat):Nat:=((ZfI m).map (·.1)).getD 0
theorem Zpm {m:Mat} (h:ZfI m=none):Zia m=false/\ecT m=0:=by unfold Zia ecT;rw[h];exact ⟨rfl,rfl⟩
theorem Zp7 {m:Mat} {x:List Int} (h:ZfI m=some (t,x)):Zia m=true/\ecT m=t:=by unfold Zia ecT;rw[h];exact ⟨rfl,rfl⟩
theorem Zkr (h: ¬ t<R):ecN C R n j t m=some (t,m):=by
 cases n with
 |zero=>rfl
 |succ n=>simp only[ecN];rw[if_neg h]
theorem ZoD (h:t<R) (hk:k=elK m C j (R-t) t) (hR:k=R):ecN C R (n+1) j t m=ecN C R n (j+1) t m:=by
 simp only[ecN];rw[if_pos h,if_pos (by rw[←hk];exact hR)]
theorem Zoh (h:t<R) (hk:k=elK m C j (R-t) t) (hR:k≠R) (hn:Zaf C j t R (Zbs m C t k)=none):ecN C R (n+1) j t m=none:=by
 exact JF
theorem ZnY (h:t<R) (hk:k=elK m C j (R-t) t) (hR:k≠R) (hn:Zaf C j t R (Zbs m C t k)=some m'):ecN C R (n+1) j t m=ecN C R n (j+1) (t+1) m':=by
 exact JF
theorem Zmt (m:List Int) (C i t j:Nat):(Zdj m C i t j).length=m.length:=by unfold Zdj;rw[Zmo,ZM]
theorem ZiB:Zd3 m C i t j=true↔ ∀ k,k<C->Zi (elW m C i t j k)=true:=by
 unfold Zd3;rw[List.all_eq_true];exact ⟨fun h k a=>h k (JW.2 a),fun h k a=>h k (JW.1 a)⟩
theorem Zpq (hm:NumL m) (h:Zd3 m C i t j=true):NumL (Zz (elW m C i t j) (i*C) C m):=fun x a=>by
 rcases Zee a with a|⟨k,b,rfl⟩
 ·exact hm x a
 ·exact ZB.1 (ZiB.1 h k b)
theorem Zrn (hm:NumL m) (h:Zd3 m C i t j=true):NumL (Zdj m C i t j):=ZmF (Zpq hm h)
theorem Zvm (hm:NumL m):0<=elG m C i t j/\elG m C i t j<=400000000:=by
 unfold elG gI JS;have b:=Zk hm C i j;have c:=Zk hm C t j;refine ⟨I, ?_⟩;by_cases a:(cell m C t j).natAbs=0
 ·rw[a,Q7];omega
 ·have:=Q8 (cell m C i j).natAbs (show 0<(cell m C t j).natAbs by omega);omega
theorem ZuK (h:cell m C i j≠0):elG m C i t j≠0:=by
 unfold elG gI JS;have:=Nat.gcd_pos_of_pos_left (cell m C t j).natAbs (show 0<(cell m C i j).natAbs by omega);omega
theorem Zsa (h:Zaf C j t n m=some m') (h1:n=t\/cell m' C n j=0):Zaf C j t (n+1) m=some m':=by
 simp only[Zaf];rw[h];simp only;rw[if_pos h1]
theorem ZuY (h:Zaf C j t n m=some m') (h1: ¬ (n=t\/cell m' C n j=0)) (h2:Zd3 m' C n t j=false):Zaf C j t (n+1) m=none:=by
 simp only[Zaf];rw[h];simp only;rw[if_neg h1,h2];rfl
theorem ZtL (h:Zaf C j t n m=some m') (h1: ¬ (n=t\/cell m' C n j=0)) (h2:Zd3 m' C n t j=true):Zaf C j t (n+1) m=some (Zdj m' C n t j):=by
 simp only[Zaf];rw[h];simp only;rw[if_neg h1,if_pos h2]
theorem Zml {C j t:Nat} {m:List Int} {n:Nat} (h:Zaf C j t n m=none): ∀ {d:Nat},Zaf C j t (n+d) m=none
 |0=>h
 |d+1=>by show Zaf C j t ((n+d)+1) m=none;simp only[Zaf];rw[Zml h (d:=d)]
theorem Zpw (h:Zbb m C i C≠0): ∃ k,k<C/\cell m C i k≠0:=by
 rcases Classical.em (∃ k,k<C/\cell m C i k≠0) with a|a
 ·exact a
 ·exact (h (Zms.2 fun k b=>Classical.byContradiction fun c=>a ⟨k,b,c⟩)).elim
theorem Ztd (h:Zbb m C i C≠0):ZcT m C i≠0:=by unfold ZcT;split<;>omega
theorem ZrI (h:NumL m): -400000000<=ZcT m C i/\ZcT m C i<=400000000:=by
 have:=ZhY (C:=C) (i:=i) h C;unfold ZcT;split<;>omega
theorem Zsc (h:Zbb m C i C≠0):Zb8 m C i=Zz (Za0 m C i) (i*C) C m:=by unfold Zb8;rw[if_neg h]
theorem Zqn (h:Zbb m C i C=0):Zb8 m C i=m:=by unfold Zb8;rw[if_pos h]
theorem ZpO (a a1:Option Addr) (n cp C i R:Nat) (m:List Int) (w:World) (h:Own w 3 1 a n cp (ints m)) (hmR:m.length=R*C) (hiR:i<R) (hm:NumL m) (_hR:R<=24) (hC:C<=24) (hA:0<C-> ∃ pb,a=some ⟨pb,0,none⟩/\a1=some ⟨pb,i*C,none⟩):
  Calls JG 159 #[.slice a1 C (cp-i*C)] w fun e w'=>e= .returned (.tuple #[])/\Own w' 3 1 a n cp (ints (Zb8 m C i))/\Keep (fun q=>blk a≠some q) w w':=by
 have Y:m.length=n:=by have:=h.len;simpa [ints] using this
 have Hn:=hid (show R*C=n by rw[←Y,hmR]);have hi:i*C+C<=n:=by have:=ZcJ hmR hiR;omega
 have ai:=h.le;have t:=hid hmR;have W:=hid Y;clear Y hmR;go_enter func159,ntmps159;go_wp2;go_loopw [2,8] (fun gv Z wr=>Grow w wr/\ ∃ k:Nat,k<=C/\Z=Yv Yi k/\gv=Yv Yi ((Zbb m C i k:Nat):Int)) (fun _ Z _=>C-(intOf Z).toNat);case atStart=>exact ⟨JH _,0,JI _,rfl,rfl⟩
 case round=>
  obtain ⟨M,rfl⟩:=eX wr;obtain ⟨hG,k,X,rfl,rfl⟩:=hrel;have B:=h.grow hG;by_cases aj:k<C
  ·obtain ⟨pb,rfl,rfl⟩:=hA I;have f:M.cell? ⟨pb,i*C+k,none⟩=some (Yv Yi (cell m C i k)):=(by have h1:=B.cell (Zab (xs:=m) (j:=i*C+k) (by rw[W.out];omega) rfl);simp only at h1;exact h1);have o:=B.lt (g:=pb) rfl;have aa:=ZhY (C:=C) (i:=i) hm k;have r:=Zk hm C i k;have ab:=hid (ZrP m C i k);generalize cell m C i k=x at *;go_wp2_with fail;refine (ZsR _ _ _ I r).mono ?_;rintro e w3 ⟨rfl,ad⟩;rw[ab.out];go_wp2;go_roundw;case rel=>exact ⟨hG.trans ad,k+1,I,Δ,rfl⟩
   case measure=>exact FN
  ·have ae:k=C:=I;rw[ae];by_cases c:Zbb m C i C=0
   ·have HE:=hid (Zqn c);rw[c];go_wp2;refine bodyPost_ret (results_none rfl _ _ _) rfl ?_;exact ⟨rfl,by rw[HE.out];exact B,hG.any⟩
   ·obtain ⟨ak,ah⟩:=ZvR t.out hiR (Zpw c);have N:=Zv8 t.out hiR (Zpw c);have F:=hid N;obtain ⟨pb,rfl,rfl⟩:=hA I;have HE:=hid (Zsc c);have v:=ZrI (C:=C) (i:=i) hm;have z:=Ztd c;have aa:=ZhY (C:=C) (i:=i) hm C;have rd:=B.rdI (S:=fun _=>True) (fun _ _=>trivial) (Zp hm);have O:=rd.sub (l:=i*C) (k:=i*C+C) I I;rw[show i*C+C-i*C=C by omega] at O;have E:Zds (some (⟨pb,0,none⟩:Addr)) cp (i*C) 1=some ⟨pb,i*C,none⟩:=(by unfold Zds;rw[if_neg I,Nat.mul_one];exact congrArg some (addr_add pb (i*C)));rw[E] at O;have q1:(((Zbb m C i C:Nat):Int)==0)=false:=(by simp[c]);have f:M.cell? ⟨pb,i*C+fz (Zag m C i),none⟩=some (Yv Yi (cell m C i (fz (Zag m C i)))):=(by have h1:=B.cell (Zab (xs:=m) (j:=i*C+fz (Zag m C i)) (by rw[W.out];omega) rfl);simp only at h1;exact h1);have o:=B.lt (g:=pb) rfl;have P:ZcT m C i=if 0<=cell m C i (fz (Zag m C i)) then (Zbb m C i C:Int) else -(Zbb m C i C:Int):=rfl;have A:=hid P;have T:=Zk hm C i (fz (Zag m C i));clear P N E rd c;generalize hp:fz (Zag m C i)=p at *;clear hp;generalize af:Zbb m C i C=g at *;clear af;generalize ag:cell m C i p=fx at *;clear ag;go_wp2_with fail;refine (ZjK (some ⟨pb,i*C,none⟩) C (cp-i*C) (Zag m C i) _ O I).mono ?_;rintro e _ ⟨rfl,rfl⟩;rw[F.out];by_cases h0:0<=fx
    ·have b:ZcT m C i=(g:Int):=(by rw[A.out,if_pos h0]);rw[b] at v z;obtain ⟨D,d⟩:=eX (g:Int);rw[←d] at v z b;have V: ¬ fx<0:=I;go_wp2;rw[←d];clear d;clear f o A T F O;have G:=hid (fun k=>(show Za0 m C i k=(cell m C i k).tdiv D by unfold Za0;rw[b]));clear b;go_wp2;go_loopw [28] (fun q u=>Keep (fun q=>pb≠q) M u/\ ∃ k:Nat,k<=C/\q=Yv Yi k/\Own u 3 1 (some ⟨pb,0,none⟩) n cp (ints (Zz (Za0 m C i) (i*C) k m))) (fun q _=>C-(intOf q).toNat);case atStart=>exact ⟨Keep.refl _ _,0,JI _,rfl,B⟩
     case round=>
      obtain ⟨u,rfl⟩:=eX wr;obtain ⟨hK,k,X,rfl,hO2⟩:=hrel;by_cases s:k<C
      ·have hzl:(Zz (Za0 m C i) (i*C) k m).length=n:=(by rw[ZM];exact W.out);have hcell:cell (Zz (Za0 m C i) (i*C) k m) C i k=cell m C i k:=Zgu t.out hiR X s (.inr (JM _));have f:u.cell? ⟨pb,i*C+k,none⟩=some (Yv Yi (cell m C i k)):=Bj;have o:=hO2.lt (g:=pb) rfl;have H:=hO2.free (i*C+k);have r:=Zk hm C i k;have hq:=Zfu (y:=D) r;have Hset:=hid (show Zz (Za0 m C i) (i*C) (k+1) m=(Zz (Za0 m C i) (i*C) k m).set (i*C+k) ((cell m C i k).tdiv D) by rw[←G.out];rfl);have J:Own (u.setCell ⟨pb,i*C+k,none⟩ (Yv Yi ((cell m C i k).tdiv D))) 3 1 (some ⟨pb,0,none⟩) n cp (ints (Zz (Za0 m C i) (i*C) (k+1) m)):=Cq;have L:Keep (fun q=>pb≠q) M (u.setCell ⟨pb,i*C+k,none⟩ (Yv Yi ((cell m C i k).tdiv D))):=hK.setCell (p:=⟨pb,i*C+k,none⟩) (fun _ e=>e rfl) _;simp only at H;clear hcell hzl hO2;generalize cell m C i k=x at *;go_wp2;go_roundw;case rel=>exact ⟨L,k+1,I,Δ,J⟩
       case measure=>exact FN
      ·exact Ii
    ·have b:ZcT m C i= -(g:Int):=(by rw[A.out,if_neg h0]);rw[b] at v z;obtain ⟨D,d⟩:=eX ( -(g:Int));rw[←d] at v z b;have V:fx<0:=I;go_wp2;rw[←d];clear d;clear f o A T F O;have G:=hid (fun k=>(show Za0 m C i k=(cell m C i k).tdiv D by unfold Za0;rw[b]));clear b;go_wp2;go_loopw [28] (fun q u=>Keep (fun q=>pb≠q) M u/\ ∃ k:Nat,k<=C/\q=Yv Yi k/\Own u 3 1 (some ⟨pb,0,none⟩) n cp (ints (Zz (Za0 m C i) (i*C) k m))) (fun q _=>C-(intOf q).toNat);case atStart=>exact ⟨Keep.refl _ _,0,JI _,rfl,B⟩
     case round=>
      obtain ⟨u,rfl⟩:=eX wr;obtain ⟨hK,k,X,rfl,hO2⟩:=hrel;by_cases s:k<C
      ·have hzl:(Zz (Za0 m C i) (i*C) k m).length=n:=(by rw[ZM];exact W.out);have hcell:cell (Zz (Za0 m C i) (i*C) k m) C i k=cell m C i k:=Zgu t.out hiR X s (.inr (JM _));have f:u.cell? ⟨pb,i*C+k,none⟩=some (Yv Yi (cell m C i k)):=Bj;have o:=hO2.lt (g:=pb) rfl;have H:=hO2.free (i*C+k);have r:=Zk hm C i k;have hq:=Zfu (y:=D) r;have Hset:=hid (show Zz (Za0 m C i) (i*C) (k+1) m=(Zz (Za0 m C i) (i*C) k m).set (i*C+k) ((cell m C i k).tdiv D) by rw[←G.out];rfl);have J:Own (u.setCell ⟨pb,i*C+k,none⟩ (Yv Yi ((cell m C i k).tdiv D))) 3 1 (some ⟨pb,0,none⟩) n cp (ints (Zz (Za0 m C i) (i*C) (k+1) m)):=Cq;have L:Keep (fun q=>pb≠q) M (u.setCell ⟨pb,i*C+k,none⟩ (Yv Yi ((cell m C i k).tdiv D))):=hK.setCell (p:=⟨pb,i*C+k,none⟩) (fun _ e=>e rfl) _;simp only at H;clear hcell hzl hO2;generalize cell m C i k=x at *;go_wp2;go_roundw;case rel=>exact ⟨L,k+1,I,Δ,J⟩
       case measure=>exact FN
      ·exact Ii
theorem Zue (n:Int) (w:World) (h:n<=400000000):Calls JG 173 #[Yv Yi n] w fun e w'=> ∃ r:Int,e= .returned (Yv Yi r)/\0<=r/\r<=20000/\Grow w w':=by
 go_enter func173,ntmps173;go_wp2;go_loopw [3] (fun i wr=>Qt w wr/\ ∃ k:Nat,i=Yv Yi k/\k<=20000) (fun i _=>20001-(intOf i).toNat);case atStart=>exact ⟨Qt.refl _,0,rfl,I⟩
 case round=>
  obtain ⟨b,k,rfl,g⟩:=hrel;obtain ⟨q,hq⟩: ∃ q:Nat,q=(k+1)*(k+1):=⟨_,rfl⟩;have c:q<=20001*20001:=by rw[hq];exact Nat.mul_le_mul I I
  have d:k=20000->q=400040001:=fun e=>Fl
  have a:((k:Int)+1)*((k:Int)+1)=(q:Int):=by rw[hq];simp
  have j:wrap64 (((k:Int)+1)*((k:Int)+1))=(q:Int):=by rw[a];unfold wrap64;omega
  clear hq a;by_cases f:(q:Int)<=n
  ·go_wp2;go_roundw;case rel=>exact ⟨b,k+1,Δ,I⟩
   case measure=>exact FN
  ·go_wp2;go_ret;exact ⟨_,rfl,I,I,b.grow⟩
theorem Zrx (a:Option Addr) (n cap:Nat) (xs:List Int) (w:World) (h:RdI w S a n cap xs) (hn:n<=24) (hx: ∀ x∈xs,0<=x/\x<=20000):
  Calls JG 114 #[.slice a n cap] w fun e w'=> ∃ a' c',e= .returned (.slice a' n c')/\RdI w' (fun _=>True) a' n c' (xs.map fun x=> -x)/\Grow w w':=by
 have C:=h.len;have r:=hid hx;clear hx;go_enter func114,ntmps114;go_wp2;go_loopw [3,9] (fun v i wr=>Grow w wr/\ ∃ (k f:Nat) (c:Option Addr),k<=n/\i=Yv Yi k/\v= .slice c k f/\Own wr 3 1 c k f (ints ((xs.take k).map fun x=> -x))/\(∀ g,blk c=some g->w.heap.size<=g)) (fun _ i _=>n-(intOf i).toNat);case atStart=>exact ⟨(JH _).alloc _ _,0,0,_,JI _,rfl,rfl,Own.fresh Γ rfl,fun g hg=>κ⟩
 case round=>
  obtain ⟨d,k,f,c,N,rfl,rfl,j,s⟩:=hrel;by_cases l:k<n
  ·obtain ⟨b,D,x,rfl,hx,E,_,F,G⟩:=(h.grow d).at l;have H:=r.out x (JX hx);have u1:wrap64 (-x)= -x:=θ;have u2:IntKind.i64.wrap (-x)= -x:=IntWalk.i64_in _ I;have J:=hid (show (xs.take (k+1)).map (fun x=> -x)=(xs.take k).map (fun x=> -x)++[-x] by rw[ZH hx,List.map_append];rfl);clear hx;go_wp2_with (at_builtin;refine ZD rfl (.tmp 13) (.tmp 16) _ rfl T_ints rfl (j.grow ((JH _).alloc _ _)) rfl (Row.built (S:=fun _=>True) 1 Γ rfl trivial) γ I Γ ?_;intro t z A hA3);have m:Grow wr (wr.alloc (.cells #[Yv Yi (-x)] 3)):=(JH _).alloc _ _;have L:=d.size;have o:Grow w A:=hA3.grow (d.trans m) fun g hg=>s g hg;have p:Own A 3 1 t (k+1) z (ints ((xs.take k).map (fun x=> -x)++[-x])):=Dy;have q:=hA3.lo (B:=w.heap.size) Ψ (fun g hg=>s g hg);clear hA3;go_wp2;go_roundw;case rel=>exact ⟨o,k+1,z,t,I,Δ,rfl,by rw[J.out];exact p,q⟩
   case measure=>exact FN
  ·obtain rfl:k=n:=I;rw[Z5 C] at j;go_wp2;go_ret;exact ⟨_,_,rfl,j.rdI (fun _ _=>trivial) (fun y M=>by obtain ⟨x,hx,rfl⟩:=List.mem_map.1 M;have:=r.out x hx;unfold I64;omega),d⟩
theorem Zu1 (xs:List Int):fcI xs= -1\/fcI xs=(fz xs:Nat)/\fz xs<xs.length:=by
 by_cases h: ∃ x∈xs,x≠0
 ·obtain ⟨x,a, -⟩:=ZqX h;unfold fcI;split
  ·exact .inl rfl
  ·exact .inr ⟨rfl,Zq5 h⟩
 ·refine .inl ?_;unfold fcI;rw[if_pos (ZgH fun x a=>by simpa using fun e=>h ⟨x,a,e⟩)]
theorem ZkG (a:Option Addr) (n cap:Nat) (xs:List Int) (w:World) (h:RdI w S a n cap xs) (hn:n<=24):
  Calls JG 115 #[.slice a n cap] w fun e w'=> ∃ b,e= .returned (.bool b)/\Grow w w':=by
 have l:=h.len;go_enter func115,ntmps115;go_wp2_with fail;refine (ZjK a n cap xs _ h I).mono ?_;rintro e _ ⟨rfl,rfl⟩;rcases Zu1 xs with c|⟨c,d⟩
 ·rw[c];go_wp2;go_ret;exact ⟨_,rfl,JH _⟩
 ·rw[c];obtain ⟨b,f,x,rfl, -,g,_,i,j⟩:=h.at (show fz xs<n by omega);generalize fz xs=k at *;clear c;go_wp2;go_ret;exact ⟨_,rfl,JH _⟩

end Go.Proofs.YtgjefeiddfjjnaaGreatDoor
