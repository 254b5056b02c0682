/- The normal form of a vector over a basis: plain; the first place of a row that is not 0, both. -/
import Derived.Test.YtjpcgofidijigaaGreatDoorZDet
import Derived.Test.YtjpcgofidijigaaGreatDoorZSol2
set_option maxHeartbeats 8000000
set_option maxRecDepth 100000
namespace Go.Proofs.YtjpcgofidijigaaGreatDoor
open Go.RowKit
open Lib (hid)
open Go.Value renaming int->Yv
open Go.IntKind renaming i64->Yi
variable {C R i j k n t:Nat} {S:Nat->Prop} {a b x:Int} {m m' xs:List Int}
structure Bas (m:Mat) (C N:Nat) (b:List Int):Prop where
 eq:ZdK m={rows:=(N:Int),cols:=(C:Int),cells:=b}
 cols:m.cols=(C:Int)
 hC:C<=24
 hN:N<=24
 len:b.length=N*C
 num:NumL b
 full: ∀ i,i<N-> ∃ k,k<C/\cell b C i k≠0
def fz (xs:List Int):Nat:=xs.findIdx fun x=>x !=0
theorem ZsR (hx:xs[k]? =some x) (hne:x≠0) (hz: ∀ y∈xs.take k,y=0):fz xs=k:=by
 unfold fz;have hk:k<xs.length:=(List.getElem?_eq_some_iff.1 hx).1;have hxk:xs[k]=x:=(List.getElem?_eq_some_iff.1 hx).2;rw[List.findIdx_eq hk];refine ⟨by simp[hxk,hne],fun j hj=> ?_⟩;have hm:xs[j]∈xs.take k:=by rw[List.mem_take_iff_getElem];exact ⟨j,by omega,rfl⟩
 simp[hz _ hm]
theorem ZnF (h: ∃ x∈xs,x≠0):fz xs<xs.length:=by
 obtain ⟨x,hx,hne⟩:=h;exact List.findIdx_lt_length_of_exists ⟨x,hx,by simp[hne]⟩
theorem Zn7 (h: ∃ x∈xs,x≠0): ∃ x,xs[fz xs]? =some x/\x≠0:=by
 have hlt:=ZnF h;exact ⟨xs[fz xs],List.getElem?_eq_getElem hlt,fun e=>by
  have h2:(fun x:Int=>x !=0) xs[fz xs]=true:=List.findIdx_getElem (w:=hlt);simp[e] at h2⟩
theorem Zr9: ∀ y∈xs.take (fz xs),y=0:=fun y hy=>by
 rw[List.mem_take_iff_getElem] at hy;obtain ⟨j,hj,rfl⟩:=hy;have:=List.not_of_lt_findIdx (p:=fun x:Int=>x !=0) (xs:=xs) (i:=j) (by unfold fz at hj;omega);simpa using this
def fcI (xs:List Int):Int:=if ZdX xs=true then -1 else (fz xs:Nat)
theorem Zmk (hx:xs[k]? =some x) (hne:x≠0) (hz: ∀ y∈xs.take k,y=0):fcI xs=(k:Int):=by
 unfold fcI;rw[ZiG hx (by simp[hne]),ZsR hx hne hz];simp
theorem Zh7 (a:Option Addr) (n cap:Nat) (xs:List Int) (w:World) (h:RdI w S a n cap xs) (hn:n<=2097152):
  Calls Tryz.prog 121 #[.slice a n cap] w fun e w'=>e= .returned (Yv Yi (fcI xs))/\w=w':=by
 have hcl: ∀ (x:Int) (w:World),Calls Tryz.prog 160 #[Yv Yi x] w fun e w'=>e= .returned (.bool (!(x==0)))/\w=w':=fun x w=>by
  by_cases hx:x=0
  ·subst hx;go_enter Tryz.func160,Tryz.ntmps160;go_wp2;go_ret;exact ⟨Zt rfl,rfl⟩
  ·have e1:(x==0)=false:=(by simp[hx]);have e2:(x !=0)=true:=(by simp[hx]);clear hx;go_enter Tryz.func160,Tryz.ntmps160;go_wp2;go_ret;exact ⟨Zt (by rw[e1];rfl),rfl⟩
 have Hl:=hid h.len;have hidx:Calls Tryz.prog 159 #[.slice a n cap, .func (.func 160) #[] #[]] w fun e w'=>e= .returned (Yv Yi (fcI xs))/\w=w':=by
  go_enter Tryz.func159,Tryz.ntmps159;go_wp2;go_loop [8] (fun i=> ∃ k:Nat,k<=n/\i=Yv Yi k/\ ∀ x∈xs.take k,(x==0)=true) (fun i=>n-(intOf i).toNat);case atStart=>exact ⟨0,Nat.zero_le _,rfl,by simp⟩
  case round=>
   obtain ⟨k,hk,rfl,he⟩:=hrel;have He:=hid he;clear he;by_cases hlt:k<n
   ·obtain ⟨b,off,x,rfl,hx,hr,_,hb,hc⟩:=h.at hlt;have Hx:=hid hx;clear hx;cases h0:x==0 with
    |true=>
     have H0:=hid h0;clear h0;go_wp2_with fail;refine (hcl _ _).mono ?_;rintro e w' ⟨rfl,rfl⟩;rw[H0.out];go_wp2
     go_round
     case rel=>
      refine ⟨k+1,by omega,by go_num,fun z hz=> ?_⟩;rw[ZH Hx.out,List.mem_append,List.mem_singleton] at hz;rcases hz with hz|rfl
      ·exact He.out z hz
      ·exact H0.out
     case measure=>simp[intOf];omega
    |false=>have H0:=hid h0;clear h0;go_wp2_with fail;refine (hcl _ _).mono ?_;rintro e w' ⟨rfl,rfl⟩;rw[H0.out];go_wp2;go_ret;exact ⟨by rw[Zmk Hx.out (by have:=H0.out;simpa using this) (fun y hy=>by have:=He.out y hy;simpa using this)];rfl,rfl⟩
   ·go_wp2;go_ret;have:k=n:=(by omega);subst this;have:=He.out;rw[Z7 Hl.out] at this;exact ⟨by unfold fcI;rw[Zfe this];rfl,rfl⟩
 go_enter Tryz.func121,Tryz.ntmps121;go_wp2_with fail;refine hidx.mono ?_;rintro e w' ⟨rfl,rfl⟩;go_wp2;go_ret;exact ⟨rfl,rfl⟩
theorem Zjx (hl:m.length=R*C) (hi:i<R) (hf: ∃ k,k<C/\cell m C i k≠0): ∃ x∈Z6 m C i,x≠0:=by
 obtain ⟨k,hk,hne⟩:=hf;exact ⟨_,List.mem_of_getElem? (ZhP hl hi hk),hne⟩
theorem Zso (hl:m.length=R*C) (hi:i<R) (hf: ∃ k,k<C/\cell m C i k≠0):fz (Z6 m C i)<C/\cell m C i (fz (Z6 m C i))≠0:=by
 have h1:=ZnF (Zjx hl hi hf);rw[ZdT hl hi] at h1;obtain ⟨x,hx,hne⟩:=Zn7 (Zjx hl hi hf);rw[ZhP hl hi h1] at hx;exact ⟨h1,by rw[Option.some.inj hx];exact hne⟩
theorem Zsv (hl:m.length=R*C) (hi:i<R) (hf: ∃ k,k<C/\cell m C i k≠0):fcI (Z6 m C i)=(fz (Z6 m C i):Nat):=by
 obtain ⟨x,hx,hne⟩:=Zn7 (Zjx hl hi hf);exact Zmk hx hne Zr9
def gI (x y:Int):Int:=((Int.gcd x y:Nat):Int)
theorem Zqs:Int.gcd b (a.tmod b)=Int.gcd a b:=by
 unfold Int.gcd;rw[Int.natAbs_tmod,Nat.gcd_comm b.natAbs, ←Nat.gcd_rec,Nat.gcd_comm]
theorem ZrU (a:Int):Int.gcd a 0=a.natAbs:=by simp[Int.gcd]
theorem ZnA (hb:b≠0):(a.tmod b).natAbs<b.natAbs:=by
 rw[Int.natAbs_tmod];exact Nat.mod_lt _ (by omega)
theorem Zqd (ha: -400000000<=a/\a<=400000000): -400000000<=a.tmod b/\a.tmod b<=400000000:=by
 have h1:=Int.natAbs_tmod a b;have h2:=Nat.mod_le a.natAbs b.natAbs;omega
theorem Zoz (a b:Int) (w:World) (ha: -400000000<=a/\a<=400000000) (hb: -400000000<=b/\b<=400000000):Calls Tryz.prog 108 #[Yv Yi a,Yv Yi b] w fun e w'=>e= .returned (Yv Yi (gI a b))/\Grow w w':=by
 obtain ⟨G,hG⟩: ∃ G,G=Int.gcd a b:=⟨_,rfl⟩;have HR:=hid (show gI a b=(G:Int) by rw[hG];rfl);go_enter Tryz.func108,Tryz.ntmps108;go_wp2;go_loopw [0,1] (fun av bv wr=>Grow w wr/\ ∃ x y:Int,av=Yv Yi x/\bv=Yv Yi y/\(-400000000<=x/\x<=400000000)/\(-400000000<=y/\y<=400000000)/\Int.gcd x y=G) (fun _ bv _=>(intOf bv).natAbs);case atStart=>exact ⟨Grow.refl _,a,b,rfl,rfl,ha,hb,hG.symm⟩
 case round=>
  clear ha hb hG;obtain ⟨hGr,x,y,rfl,rfl,hx,hy,hg⟩:=hrel;have Hg:=hid hg;clear hg;by_cases h0:y=0
  ·have q1:(y !=0)=false:=(by simp[h0]);have HE:=hid (show (x.natAbs:Int)=gI a b by rw[HR.out, ←Hg.out,h0,ZrU]);go_wp2_with fail;refine (Zdb x _ (by omega)).mono ?_;rintro e _ ⟨rfl,rfl⟩;rw[HE.out];go_wp2;go_ret;exact ⟨rfl,hGr⟩
  ·have q1:(y !=0)=true:=(by simp[h0]);have hm:=Zqd (b:=y) hx;have hlt:=ZnA (a:=x) h0;have Hs:=hid (show Int.gcd y (x.tmod y)=G by rw[Zqs,Hg.out]);go_wp2;go_region;go_wp2;go_roundw;case rel=>exact ⟨hGr.drew,y,x.tmod y,rfl,rfl,hy,hm,Hs.out⟩
   case measure=>simp only[intOf];omega
def ZaM (m:List Int) (C i:Nat):Nat->Nat
 |0=>0
 |n+1=>Nat.gcd (ZaM m C i n) (cell m C i n).natAbs
def ZbV (m:List Int) (C i:Nat):Int:=if 0<=cell m C i (fz (Z6 m C i)) then (ZaM m C i C:Int) else -(ZaM m C i C:Int)
def ZaA (m:List Int) (C i k:Nat):Int:=(cell m C i k).tdiv (ZbV m C i)
def Zbj (m:List Int) (C i:Nat):List Int:=if ZaM m C i C=0 then m else ZC (ZaA m C i) (i*C) C m
def ZaH (m:List Int) (C:Nat):Nat->List Int
 |0=>m
 |n+1=>Zbj (ZaH m C n) C n
theorem Zj7 (m:List Int) (C i:Nat):(Zbj m C i).length=m.length:=by unfold Zbj;split;rfl;exact ZL ..
theorem Zed {y:Int} (hx: -400000000<=x/\x<=400000000): -400000000<=x.tdiv y/\x.tdiv y<=400000000:=by
 have h1:(x.tdiv y).natAbs=x.natAbs/y.natAbs:=Int.natAbs_tdiv ..;have h2:=Nat.div_le_self x.natAbs y.natAbs;omega
theorem Zoo (h:NumL m) (k:Nat): -400000000<=ZaA m C i k/\ZaA m C i k<=400000000:=Zed (Zo h C i k)
theorem Zko (h:NumL m):NumL (Zbj m C i):=by
 unfold Zbj;split
 ·exact h
 ·intro x hx;rcases ZdQ hx with hx|⟨k,_,rfl⟩
  ·exact h x hx
  ·exact Zoo h k
theorem Zd5 (m:List Int) (C:Nat): ∀ n,(ZaH m C n).length=m.length
 |0=>rfl
 |n+1=>by simp only[ZaH];rw[Zj7,Zd5 m C n]
theorem Zig {m:List Int} {C:Nat} (h:NumL m): ∀ n,NumL (ZaH m C n)
 |0=>h
 |n+1=>Zko (Zig h n)
theorem Zgm {m:List Int} {C i:Nat} (h:NumL m): ∀ n,ZaM m C i n<=400000000
 |0=>by simp[ZaM]
 |n+1=>by
  simp only[ZaM];by_cases h0:(cell m C i n).natAbs=0
  ·rw[h0,Nat.gcd_zero_right];exact Zgm h n
  ·have h1:=Nat.gcd_le_right (ZaM m C i n) (show 0<(cell m C i n).natAbs by omega);have h2:=Zo h C i n;omega
theorem Zj3 {m:List Int} {C i:Nat}: ∀ {n:Nat},ZaM m C i n=0↔ ∀ k,k<n->cell m C i k=0
 |0=>by simp[ZaM]
 |n+1=>by
  simp only[ZaM];rw[Nat.gcd_eq_zero_iff,Zj3 (n:=n)];constructor
  ·rintro ⟨h1,h2⟩ k hk;by_cases e:k=n
   ·subst e;omega
   ·exact h1 k (by omega)
  ·intro h;exact ⟨fun k hk=>h k (by omega),by have:=h n (by omega);omega⟩
theorem ZoK (m:List Int) (C i n:Nat):gI ((ZaM m C i n:Nat):Int) (cell m C i n)=((ZaM m C i (n+1):Nat):Int):=by
 unfold gI Int.gcd;simp[ZaM]
def elG (m:List Int) (C i t j:Nat):Int:=gI (cell m C i j) (cell m C t j)
def elW (m:List Int) (C i t j k:Nat):Int:=(cell m C t j).tdiv (elG m C i t j)*cell m C i k-(cell m C i j).tdiv (elG m C i t j)*cell m C t k
def ZcX (m:List Int) (C i t j:Nat):Bool:=(List.range C).all fun k=>Zl (elW m C i t j k)
def Zcc (m:List Int) (C i t j:Nat):List Int:=Zbj (ZC (elW m C i t j) (i*C) C m) C i
def Z0 (C j t:Nat):Nat->List Int->Option (List Int)
 |0,m=>some m
 |n+1,m=>match Z0 C j t n m with
  |none=>none
  |some m'=>if n=t\/cell m' C n j=0 then some m' else if ZcX m' C n t j=true then some (Zcc m' C n t j) else none
def ecN (C R:Nat):Nat->Nat->Nat->List Int->Option (Nat×List Int)
 |0,_,t,m=>some (t,m)
 | n + 1, j, t, m => if t < R then (if elK m C j (R - t) t = R then ecN C R n (j + 1) t m else match Z0 C j t R (ZaV m C t (elK m C j (R - t) t)) with
   |none=>none
   |some m'=>ecN C R n (j+1) (t+1) m') else some (t,m)
def Zeu (m:Mat):Option (Nat×List Int):=if Ze m=true then ecN m.cols.toNat m.rows.toNat m.cols.toNat 0 0 (ZaH m.cells m.cols.toNat m.rows.toNat) else none
def Zgz (m:Mat):Bool:=(Zeu m).isSome
def ecT (m:Mat):Nat:=((Zeu m).map (·.1)).getD 0
theorem Znf {m:Mat} (h:Zeu m=none):Zgz m=false/\ecT m=0:=by unfold Zgz ecT;rw[h];exact ⟨rfl,rfl⟩
theorem Znc {m:Mat} {x:List Int} (h:Zeu m=some (t,x)):Zgz m=true/\ecT m=t:=by unfold Zgz ecT;rw[h];exact ⟨rfl,rfl⟩
theorem ZiJ (h: ¬ t<R):ecN C R n j t m=some (t,m):=by
 cases n with
 |zero=>rfl
 |succ n=>simp only[ecN];rw[if_neg h]
theorem ZlO (h:t<R) (hk:k=elK m C j (R-t) t) (hR:k=R):ecN C R (n+1) j t m=ecN C R n (j+1) t m:=by
 simp only[ecN];rw[if_pos h,if_pos (by rw[←hk];exact hR)]
theorem Zml (h:t<R) (hk:k=elK m C j (R-t) t) (hR:k≠R) (hn:Z0 C j t R (ZaV m C t k)=none):ecN C R (n+1) j t m=none:=by
 simp only[ecN];rw[if_pos h,if_neg (by rw[←hk];exact hR), ←hk,hn]
theorem Zmb (h:t<R) (hk:k=elK m C j (R-t) t) (hR:k≠R) (hn:Z0 C j t R (ZaV m C t k)=some m'):ecN C R (n+1) j t m=ecN C R n (j+1) (t+1) m':=by
 simp only[ecN];rw[if_pos h,if_neg (by rw[←hk];exact hR), ←hk,hn]
theorem ZjW (m:List Int) (C i t j:Nat):(Zcc m C i t j).length=m.length:=by unfold Zcc;rw[Zj7,ZL]
theorem Zhz:ZcX m C i t j=true↔ ∀ k,k<C->Zl (elW m C i t j k)=true:=by
 unfold ZcX;rw[List.all_eq_true];exact ⟨fun h k hk=>h k (List.mem_range.2 hk),fun h k hk=>h k (List.mem_range.1 hk)⟩
theorem Zm0 (hm:NumL m) (h:ZcX m C i t j=true):NumL (ZC (elW m C i t j) (i*C) C m):=fun x hx=>by
 rcases ZdQ hx with hx|⟨k,hk,rfl⟩
 ·exact hm x hx
 ·exact ZI.1 (Zhz.1 h k hk)
theorem Zpw (hm:NumL m) (h:ZcX m C i t j=true):NumL (Zcc m C i t j):=Zko (Zm0 hm h)
theorem Zri (hm:NumL m):0<=elG m C i t j/\elG m C i t j<=400000000:=by
 unfold elG gI Int.gcd;have h1:=Zo hm C i j;have h2:=Zo hm C t j;refine ⟨by omega, ?_⟩;by_cases h0:(cell m C t j).natAbs=0
 ·rw[h0,Nat.gcd_zero_right];omega
 ·have:=Nat.gcd_le_right (cell m C i j).natAbs (show 0<(cell m C t j).natAbs by omega);omega
theorem Zse (h:cell m C i j≠0):elG m C i t j≠0:=by
 unfold elG gI Int.gcd;have:=Nat.gcd_pos_of_pos_left (cell m C t j).natAbs (show 0<(cell m C i j).natAbs by omega);omega
theorem Zo8 (h:Z0 C j t n m=some m') (h1:n=t\/cell m' C n j=0):Z0 C j t (n+1) m=some m':=by
 simp only[Z0];rw[h];simp only;rw[if_pos h1]
theorem ZrJ (h:Z0 C j t n m=some m') (h1: ¬ (n=t\/cell m' C n j=0)) (h2:ZcX m' C n t j=false):Z0 C j t (n+1) m=none:=by
 simp only[Z0];rw[h];simp only;rw[if_neg h1,h2];rfl
theorem Zp7 (h:Z0 C j t n m=some m') (h1: ¬ (n=t\/cell m' C n j=0)) (h2:ZcX m' C n t j=true):Z0 C j t (n+1) m=some (Zcc m' C n t j):=by
 simp only[Z0];rw[h];simp only;rw[if_neg h1,if_pos h2]
theorem ZjU {C j t:Nat} {m:List Int} {n:Nat} (h:Z0 C j t n m=none): ∀ {d:Nat},Z0 C j t (n+d) m=none
 |0=>h
 |d+1=>by show Z0 C j t ((n+d)+1) m=none;simp only[Z0];rw[ZjU h (d:=d)]
theorem ZmV (h:ZaM m C i C≠0): ∃ k,k<C/\cell m C i k≠0:=by
 rcases Classical.em (∃ k,k<C/\cell m C i k≠0) with h1|h1
 ·exact h1
 ·exact (h (Zj3.2 fun k hk=>Classical.byContradiction fun h2=>h1 ⟨k,hk,h2⟩)).elim
theorem ZqQ (h:ZaM m C i C≠0):ZbV m C i≠0:=by unfold ZbV;split<;>omega
theorem Zo3 (h:NumL m): -400000000<=ZbV m C i/\ZbV m C i<=400000000:=by
 have:=Zgm (C:=C) (i:=i) h C;unfold ZbV;split<;>omega
theorem ZpI (h:ZaM m C i C≠0):Zbj m C i=ZC (ZaA m C i) (i*C) C m:=by unfold Zbj;rw[if_neg h]
theorem Zn4 (h:ZaM m C i C=0):Zbj m C i=m:=by unfold Zbj;rw[if_pos h]
theorem ZmS (a a1:Option Addr) (n cp C i R:Nat) (m:List Int) (w:World) (h:Own w 3 1 a n cp (ints m)) (hmR:m.length=R*C) (hiR:i<R) (hm:NumL m) (_hR:R<=24) (hC:C<=24) (hA:0<C-> ∃ pb,a=some ⟨pb,0,none⟩/\a1=some ⟨pb,i*C,none⟩):
  Calls Tryz.prog 105 #[.slice a1 C (cp-i*C)] w fun e w'=>e= .returned (.tuple #[])/\Own w' 3 1 a n cp (ints (Zbj m C i))/\Keep (fun q=>blk a≠some q) w w':=by
 have hl:m.length=n:=by have:=h.len;simpa [ints] using this
 have Hn:=hid (show R*C=n by rw[←hl,hmR]);have hi:i*C+C<=n:=by have:=Zci hmR hiR;omega
 have hle:=h.le;have HmR:=hid hmR;have Hl:=hid hl;clear hl hmR;go_enter Tryz.func105,Tryz.ntmps105;go_wp2;go_loopw [2,8] (fun gv kv wr=>Grow w wr/\ ∃ k:Nat,k<=C/\kv=Yv Yi k/\gv=Yv Yi ((ZaM m C i k:Nat):Int)) (fun _ kv _=>C-(intOf kv).toNat);case atStart=>exact ⟨Grow.refl _,0,Nat.zero_le _,rfl,rfl⟩
 case round=>
  obtain ⟨wo,rfl⟩: ∃ wo,wo=wr:=⟨_,rfl⟩;obtain ⟨hG,k,hk,rfl,rfl⟩:=hrel;have hO:=h.grow hG;by_cases hlt:k<C
  ·obtain ⟨pb,rfl,rfl⟩:=hA (by omega);have hcx:wo.cell? ⟨pb,i*C+k,none⟩=some (Yv Yi (cell m C i k)):=(by have h1:=hO.cell (Zbg (xs:=m) (j:=i*C+k) (by rw[Hl.out];omega) rfl);simp only at h1;exact h1);have hpb:=hO.lt (g:=pb) rfl;have hgn:=Zgm (C:=C) (i:=i) hm k;have hcn:=Zo hm C i k;have Hst:=hid (ZoK m C i k);generalize cell m C i k=x at *;go_wp2_with fail;refine (Zoz _ _ _ (by omega) hcn).mono ?_;rintro e w3 ⟨rfl,hG3⟩;rw[Hst.out];go_wp2;go_roundw;case rel=>exact ⟨hG.trans hG3,k+1,by omega,by go_num,rfl⟩
   case measure=>simp[intOf];omega
  ·have hkE:k=C:=(by omega);rw[hkE];by_cases hg0:ZaM m C i C=0
   ·have HE:=hid (Zn4 hg0);rw[hg0];go_wp2;refine bodyPost_ret (results_none rfl _ _ _) rfl ?_;exact ⟨rfl,by rw[HE.out];exact hO,hG.any⟩
   ·obtain ⟨hfC,hfne⟩:=Zso HmR.out hiR (ZmV hg0);have hfc:=Zsv HmR.out hiR (ZmV hg0);have Hfc:=hid hfc;obtain ⟨pb,rfl,rfl⟩:=hA (by omega);have HE:=hid (ZpI hg0);have hDn:=Zo3 (C:=C) (i:=i) hm;have hD0:=ZqQ hg0;have hgn:=Zgm (C:=C) (i:=i) hm C;have rd:=hO.rdI (S:=fun _=>True) (fun _ _=>trivial) (Zy hm);have rs:=rd.sub (l:=i*C) (k:=i*C+C) (by omega) (by omega);rw[show i*C+C-i*C=C by omega] at rs;have hsub:ZcQ (some (⟨pb,0,none⟩:Addr)) cp (i*C) 1=some ⟨pb,i*C,none⟩:=(by unfold ZcQ;rw[if_neg (by omega),Nat.mul_one];exact congrArg some (addr_add pb (i*C)));rw[hsub] at rs;have q1:(((ZaM m C i C:Nat):Int)==0)=false:=(by simp[hg0]);have hcx:wo.cell? ⟨pb,i*C+fz (Z6 m C i),none⟩=some (Yv Yi (cell m C i (fz (Z6 m C i)))):=(by have h1:=hO.cell (Zbg (xs:=m) (j:=i*C+fz (Z6 m C i)) (by rw[Hl.out];omega) rfl);simp only at h1;exact h1);have hpb:=hO.lt (g:=pb) rfl;have hDe:ZbV m C i=if 0<=cell m C i (fz (Z6 m C i)) then (ZaM m C i C:Int) else -(ZaM m C i C:Int):=rfl;have HDe:=hid hDe;have hcf:=Zo hm C i (fz (Z6 m C i));clear hDe hfc hsub rd hg0;generalize hp:fz (Z6 m C i)=p at *;clear hp;generalize hgg:ZaM m C i C=g at *;clear hgg;generalize hfx:cell m C i p=fx at *;clear hfx;go_wp2_with fail;refine (Zh7 (some ⟨pb,i*C,none⟩) C (cp-i*C) (Z6 m C i) _ rs (by omega)).mono ?_;rintro e _ ⟨rfl,rfl⟩;rw[Hfc.out];by_cases h0:0<=fx
    ·have hDv:ZbV m C i=(g:Int):=(by rw[HDe.out,if_pos h0]);rw[hDv] at hDn hD0;obtain ⟨D,hDD⟩: ∃ D,D=(g:Int):=⟨_,rfl⟩;rw[←hDD] at hDn hD0 hDv;have hlt0: ¬ fx<0:=(by omega);go_wp2;rw[←hDD];clear hDD;clear hcx hpb HDe hcf Hfc rs;have Hcv:=hid (fun k=>(show ZaA m C i k=(cell m C i k).tdiv D by unfold ZaA;rw[hDv]));clear hDv;go_wp2;go_loopw [28] (fun q u=>Keep (fun q=>pb≠q) wo u/\ ∃ k:Nat,k<=C/\q=Yv Yi k/\Own u 3 1 (some ⟨pb,0,none⟩) n cp (ints (ZC (ZaA m C i) (i*C) k m))) (fun q _=>C-(intOf q).toNat);case atStart=>exact ⟨Keep.refl _ _,0,Nat.zero_le _,rfl,hO⟩
     case round=>
      obtain ⟨u,rfl⟩: ∃ u,u=wr:=⟨_,rfl⟩;obtain ⟨hK,k,hk,rfl,hO2⟩:=hrel;by_cases hlt2:k<C
      ·have hzl:(ZC (ZaA m C i) (i*C) k m).length=n:=(by rw[ZL];exact Hl.out);have hcell:cell (ZC (ZaA m C i) (i*C) k m) C i k=cell m C i k:=Zfg HmR.out hiR hk hlt2 (.inr (Nat.le_refl _));have hcx:u.cell? ⟨pb,i*C+k,none⟩=some (Yv Yi (cell m C i k)):=(by have h1:=hO2.cell (Zbg (j:=i*C+k) (by rw[hzl];omega) (show (ZC (ZaA m C i) (i*C) k m).getD (i*C+k) 0=cell m C i k from hcell));simp only at h1;exact h1);have hpb:=hO2.lt (g:=pb) rfl;have hfr:=hO2.free (i*C+k);have hcn:=Zo hm C i k;have hq:=Zed (y:=D) hcn;have Hset:=hid (show ZC (ZaA m C i) (i*C) (k+1) m=(ZC (ZaA m C i) (i*C) k m).set (i*C+k) ((cell m C i k).tdiv D) by rw[←Hcv.out];rfl);have hO9:Own (u.setCell ⟨pb,i*C+k,none⟩ (Yv Yi ((cell m C i k).tdiv D))) 3 1 (some ⟨pb,0,none⟩) n cp (ints (ZC (ZaA m C i) (i*C) (k+1) m)):=(by have:=hO2.set (i*C+k) (Yv Yi ((cell m C i k).tdiv D));rw[←ints_set, ←Hset.out] at this;exact this);have hK9:Keep (fun q=>pb≠q) wo (u.setCell ⟨pb,i*C+k,none⟩ (Yv Yi ((cell m C i k).tdiv D))):=hK.setCell (p:=⟨pb,i*C+k,none⟩) (fun _ e=>e rfl) _;simp only at hfr;clear hcell hzl hO2;generalize cell m C i k=x at *;go_wp2;go_roundw;case rel=>exact ⟨hK9,k+1,by omega,by go_num,hO9⟩
       case measure=>simp[intOf];omega
      ·have hkE2:k=C:=(by omega);rw[hkE2, ←HE.out] at hO2;go_wp2;exact bodyPost_end (results_none rfl _ _ _) rfl ⟨rfl,hO2,(hG.any.trans hK).mono fun q _ hq e=>hq (by simpa using e)⟩
    ·have hDv:ZbV m C i= -(g:Int):=(by rw[HDe.out,if_neg h0]);rw[hDv] at hDn hD0;obtain ⟨D,hDD⟩: ∃ D,D= -(g:Int):=⟨_,rfl⟩;rw[←hDD] at hDn hD0 hDv;have hlt0:fx<0:=(by omega);go_wp2;rw[←hDD];clear hDD;clear hcx hpb HDe hcf Hfc rs;have Hcv:=hid (fun k=>(show ZaA m C i k=(cell m C i k).tdiv D by unfold ZaA;rw[hDv]));clear hDv;go_wp2;go_loopw [28] (fun q u=>Keep (fun q=>pb≠q) wo u/\ ∃ k:Nat,k<=C/\q=Yv Yi k/\Own u 3 1 (some ⟨pb,0,none⟩) n cp (ints (ZC (ZaA m C i) (i*C) k m))) (fun q _=>C-(intOf q).toNat);case atStart=>exact ⟨Keep.refl _ _,0,Nat.zero_le _,rfl,hO⟩
     case round=>
      obtain ⟨u,rfl⟩: ∃ u,u=wr:=⟨_,rfl⟩;obtain ⟨hK,k,hk,rfl,hO2⟩:=hrel;by_cases hlt2:k<C
      ·have hzl:(ZC (ZaA m C i) (i*C) k m).length=n:=(by rw[ZL];exact Hl.out);have hcell:cell (ZC (ZaA m C i) (i*C) k m) C i k=cell m C i k:=Zfg HmR.out hiR hk hlt2 (.inr (Nat.le_refl _));have hcx:u.cell? ⟨pb,i*C+k,none⟩=some (Yv Yi (cell m C i k)):=(by have h1:=hO2.cell (Zbg (j:=i*C+k) (by rw[hzl];omega) (show (ZC (ZaA m C i) (i*C) k m).getD (i*C+k) 0=cell m C i k from hcell));simp only at h1;exact h1);have hpb:=hO2.lt (g:=pb) rfl;have hfr:=hO2.free (i*C+k);have hcn:=Zo hm C i k;have hq:=Zed (y:=D) hcn;have Hset:=hid (show ZC (ZaA m C i) (i*C) (k+1) m=(ZC (ZaA m C i) (i*C) k m).set (i*C+k) ((cell m C i k).tdiv D) by rw[←Hcv.out];rfl);have hO9:Own (u.setCell ⟨pb,i*C+k,none⟩ (Yv Yi ((cell m C i k).tdiv D))) 3 1 (some ⟨pb,0,none⟩) n cp (ints (ZC (ZaA m C i) (i*C) (k+1) m)):=(by have:=hO2.set (i*C+k) (Yv Yi ((cell m C i k).tdiv D));rw[←ints_set, ←Hset.out] at this;exact this);have hK9:Keep (fun q=>pb≠q) wo (u.setCell ⟨pb,i*C+k,none⟩ (Yv Yi ((cell m C i k).tdiv D))):=hK.setCell (p:=⟨pb,i*C+k,none⟩) (fun _ e=>e rfl) _;simp only at hfr;clear hcell hzl hO2;generalize cell m C i k=x at *;go_wp2;go_roundw;case rel=>exact ⟨hK9,k+1,by omega,by go_num,hO9⟩
       case measure=>simp[intOf];omega
      ·have hkE2:k=C:=(by omega);rw[hkE2, ←HE.out] at hO2;go_wp2;exact bodyPost_end (results_none rfl _ _ _) rfl ⟨rfl,hO2,(hG.any.trans hK).mono fun q _ hq e=>hq (by simpa using e)⟩
theorem Zq6 (n:Int) (w:World) (h:n<=400000000):Calls Tryz.prog 120 #[Yv Yi n] w fun e w'=> ∃ r:Int,e= .returned (Yv Yi r)/\0<=r/\r<=20000/\Grow w w':=by
 go_enter Tryz.func120,Tryz.ntmps120;go_wp2;go_loopw [3] (fun i wr=>Qt w wr/\ ∃ k:Nat,i=Yv Yi k/\k<=20000) (fun i _=>20001-(intOf i).toNat);case atStart=>exact ⟨Qt.refl _,0,rfl,by omega⟩
 case round=>
  obtain ⟨hQ,k,rfl,hk⟩:=hrel;obtain ⟨q,hq⟩: ∃ q:Nat,q=(k+1)*(k+1):=⟨_,rfl⟩;have hqb:q<=20001*20001:=by rw[hq];exact Nat.mul_le_mul (by omega) (by omega)
  have hqk:k=20000->q=400040001:=fun e=>by rw[hq,e]
  have hqi:((k:Int)+1)*((k:Int)+1)=(q:Int):=by rw[hq];simp
  have hw:wrap64 (((k:Int)+1)*((k:Int)+1))=(q:Int):=by rw[hqi];unfold wrap64;omega
  clear hq hqi;by_cases hlt:(q:Int)<=n
  ·go_wp2;go_roundw;case rel=>exact ⟨hQ,k+1,by go_num,by omega⟩
   case measure=>simp[intOf];omega
  ·go_wp2;go_ret;exact ⟨_,rfl,by omega,by omega,hQ.grow⟩
theorem Zpz (a:Option Addr) (n cap:Nat) (xs:List Int) (w:World) (h:RdI w S a n cap xs) (hn:n<=24) (hx: ∀ x∈xs,0<=x/\x<=20000):
  Calls Tryz.prog 82 #[.slice a n cap] w fun e w'=> ∃ a' c',e= .returned (.slice a' n c')/\RdI w' (fun _=>True) a' n c' (xs.map fun x=> -x)/\Grow w w':=by
 have hl:=h.len;have Hx:=hid hx;clear hx;go_enter Tryz.func82,Tryz.ntmps82;go_wp2;go_loopw [3,9] (fun v i wr=>Grow w wr/\ ∃ (k c1:Nat) (a1:Option Addr),k<=n/\i=Yv Yi k/\v= .slice a1 k c1/\Own wr 3 1 a1 k c1 (ints ((xs.take k).map fun x=> -x))/\(∀ g,blk a1=some g->w.heap.size<=g)) (fun _ i _=>n-(intOf i).toNat);case atStart=>exact ⟨(Grow.refl _).alloc _ _,0,0,_,Nat.zero_le _,rfl,rfl,Own.fresh (by unfold maxLen;omega) rfl,fun g hg=>by simp at hg;omega⟩
 case round=>
  obtain ⟨hG,k,c1,a1,hk,rfl,rfl,oB,lB⟩:=hrel;by_cases hlt:k<n
  ·obtain ⟨b,off,x,rfl,hx,hxr,_,hbw,hc0⟩:=(h.grow hG).at hlt;have hxb:=Hx.out x (List.mem_of_getElem? hx);have u1:wrap64 (-x)= -x:=(by unfold wrap64;omega);have u2:IntKind.i64.wrap (-x)= -x:=IntWalk.i64_in _ (by omega);have he:=hid (show (xs.take (k+1)).map (fun x=> -x)=(xs.take k).map (fun x=> -x)++[-x] by rw[ZH hx,List.map_append];rfl);clear hx;go_wp2_with (at_builtin;go_loud (refine Zx rfl (.tmp 13) (.tmp 16) _ rfl T_ints rfl (oB.grow ((Grow.refl _).alloc _ _)) rfl (Row.built (S:=fun _=>True) 1 (by unfold maxLen;omega) rfl trivial) (by simp[Value.oneCell']) (by omega) (by unfold maxLen;omega) ?_;intro a3 c3 w3 hA3));have hGz:Grow wr (wr.alloc (.cells #[Yv Yi (-x)] 3)):=(Grow.refl _).alloc _ _;have hs2:=hG.size;have hG3:Grow w w3:=hA3.grow (hG.trans hGz) fun g hg=>lB g hg;have oB3:Own w3 3 1 a3 (k+1) c3 (ints ((xs.take k).map (fun x=> -x)++[-x])):=(by have:=hA3.own;simpa [ints] using this);have lB3:=hA3.lo (B:=w.heap.size) (by simp;omega) (fun g hg=>lB g hg);clear hA3;go_wp2;go_roundw;case rel=>exact ⟨hG3,k+1,c3,a3,by omega,by go_num,rfl,by rw[he.out];exact oB3,lB3⟩
   case measure=>simp[intOf];omega
  ·obtain rfl:k=n:=(by omega);rw[Z7 hl] at oB;go_wp2;go_ret;exact ⟨_,_,rfl,oB.rdI (fun _ _=>trivial) (fun y hy=>by obtain ⟨x,hx,rfl⟩:=List.mem_map.1 hy;have:=Hx.out x hx;unfold I64;omega),hG⟩
theorem Zr4 (xs:List Int):fcI xs= -1\/fcI xs=(fz xs:Nat)/\fz xs<xs.length:=by
 by_cases h: ∃ x∈xs,x≠0
 ·obtain ⟨x,hx, -⟩:=Zn7 h;unfold fcI;split
  ·exact .inl rfl
  ·exact .inr ⟨rfl,ZnF h⟩
 ·refine .inl ?_;unfold fcI;rw[if_pos (Zfe fun x hx=>by simpa using fun e=>h ⟨x,hx,e⟩)]
theorem ZiU (a:Option Addr) (n cap:Nat) (xs:List Int) (w:World) (h:RdI w S a n cap xs) (hn:n<=24):
  Calls Tryz.prog 83 #[.slice a n cap] w fun e w'=> ∃ b,e= .returned (.bool b)/\Grow w w':=by
 have hl:=h.len;go_enter Tryz.func83,Tryz.ntmps83;go_wp2_with fail;refine (Zh7 a n cap xs _ h (by omega)).mono ?_;rintro e _ ⟨rfl,rfl⟩;rcases Zr4 xs with hf|⟨hf,hlt⟩
 ·rw[hf];go_wp2;go_ret;exact ⟨_,rfl,Grow.refl _⟩
 ·rw[hf];obtain ⟨b,off,x,rfl, -,hxr,_,hbw,hc0⟩:=h.at (show fz xs<n by omega);generalize fz xs=k at *;clear hf;go_wp2;go_ret;exact ⟨_,rfl,Grow.refl _⟩

end Go.Proofs.YtjpcgofidijigaaGreatDoor
