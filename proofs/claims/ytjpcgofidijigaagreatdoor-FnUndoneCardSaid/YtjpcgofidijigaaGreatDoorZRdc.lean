/- Cells that are slices of integers, read; rows of structs. -/
import Derived.Test.YtjpcgofidijigaaGreatDoorZInts
set_option maxHeartbeats 8000000
set_option maxRecDepth 100000
namespace Go.Proofs.YtjpcgofidijigaaGreatDoor
open Go.RowKit
open Lib (hid)
open Go.Value renaming int->Yv
open Go.IntKind renaming i64->Yi
variable {A B m:Mat} {F S T:Nat->Prop} {a:Option Addr} {cap k n sz:Nat} {cs vs:List Value} {hi lo x:Int} {l xs:List Int} {v:Value} {w w':World} {xss:List (List Int)}
def RdCells (w:World) (S:Nat->Prop) (vs:List Value) (xss:List (List Int)):Prop:=
 ∀ (i:Nat) (xs:List Int),xss[i]? =some xs-> ∃ b c,vs[i]? =some (Value.slice b xs.length c)/\RdI w S b xs.length c xs
theorem RdCells.keep (h:RdCells w S vs xss) (hk:Keep T w w') (hST: ∀ b,b<w.heap.size->S b->T b):RdCells w' S vs xss:=fun i xs hi=>by
 obtain ⟨b,c,h3,h4⟩:=h i xs hi;exact ⟨b,c,h3,h4.keep hk hST⟩
theorem RdCells.grow (h:RdCells w S vs xss) (hk:Grow w w'):RdCells w' S vs xss:=h.keep hk fun _ _ _=>trivial
theorem RdCells.weak (h:RdCells w S vs xss) (hST: ∀ b,b<w.heap.size->S b->T b):RdCells w T vs xss:=fun i xs hi=>by
 obtain ⟨b,c,h3,h4⟩:=h i xs hi;exact ⟨b,c,h3,h4.weak hST⟩
theorem RdCells.nilw:RdCells w S [] []:=fun i xs h=>by simp at h
theorem RdCells.append {us:List Value} {yss:List (List Int)} (h:RdCells w S vs xss) (h':RdCells w S us yss) (hl:vs.length=xss.length):RdCells w S (vs++us) (xss++yss):=fun i xs hi=>by
 by_cases hlt:i<xss.length
 ·rw[List.getElem?_append_left hlt] at hi;obtain ⟨b,c,h1,h2⟩:=h i xs hi;exact ⟨b,c,by rw[List.getElem?_append_left (by omega)];exact h1,h2⟩
 ·rw[List.getElem?_append_right (by omega)] at hi;obtain ⟨b,c,h1,h2⟩:=h' _ xs hi;exact ⟨b,c,by rw[List.getElem?_append_right (by omega),hl];exact h1,h2⟩
theorem RdCells.two {a1 a2:Option Addr} {n1 n2 c1 c2:Nat} {x y:List Int} (h1:RdI w S a1 n1 c1 x) (h2:RdI w S a2 n2 c2 y):RdCells w S [.slice a1 n1 c1, .slice a2 n2 c2] [x,y]:=fun i xs hi=>by
 have e1:=h1.len;have e2:=h2.len;subst e1;subst e2
 match i,hi with
 |0,hi=>simp at hi;subst hi;exact ⟨a1,c1,rfl,h1⟩
 |1,hi=>simp at hi;subst hi;exact ⟨a2,c2,rfl,h2⟩
theorem Row.pre (h:Row w S sz a n cap cs) (hk:k<=n):Row w S sz a k cap (cs.take (k*sz)):=by
 have h1:=h.len;have h2:=h.le;have h3:k*sz<=n*sz:=Nat.mul_le_mul_right _ hk;refine ⟨by rw[List.length_take];omega,by omega,h.max,h.nil,fun hne=> ?_⟩;have hcs:cs≠[]:=by intro e;subst e;simp at hne
 obtain ⟨b,off,rfl,hS,hc⟩:=h.addr hcs;refine ⟨b,off,rfl,hS,fun j c hj=>hc j c ?_⟩;rw[List.getElem?_take] at hj;split at hj
 ·exact hj
 ·cases hj
theorem Inner.rdCells {g:Option Nat} (h:Inner w F g vs xss) (hS: ∀ b,F b->g≠some b->S b):RdCells w S vs xss:=fun i xs hi=>by
 obtain ⟨b,c,h1,h2,h3,h4⟩:=h.each i xs hi;exact ⟨b,c,h1,h2.rdI (fun q hq=>hS q (h4 q hq).1 (h4 q hq).2) h3⟩
def firstIdx {α:Type} (f:α->Bool):List α->Int
 |[]=> -1
 |x::r=>if f x=true then 0 else (if firstIdx f r<0 then -1 else firstIdx f r+1)
theorem Zd8 {α:Type} (f:α->Bool) (l:List α): -1<=firstIdx f l/\firstIdx f l<l.length:=by
 induction l with
 |nil=>simp[firstIdx]
 |cons x r ih=>simp only[firstIdx,List.length_cons];split<;>(try split)<;>omega
theorem Zd0 {α:Type} {f:α->Bool}: ∀ {l:List α} {k:Nat} {x:α},(∀ y∈l.take k,f y=false)->l[k]? =some x->f x=true->firstIdx f l=k
 |[],k,x,_,h,_=>by simp at h
 |y::r,0,x,_,h,hf=>by simp at h;subst h;simp[firstIdx,hf]
 |y::r,k+1,x,h,hk,hf=>by have h1:=h y (by simp);simp at hk;have ih:=Zd0 (f:=f) (l:=r) (k:=k) (fun z hz=>h z (by simp[hz])) hk hf;simp only[firstIdx,h1,ih];simp only[Bool.false_eq_true,if_false];rw[if_neg (by omega)];simp
theorem Zfw {α:Type} {f:α->Bool}: ∀ {l:List α},(∀ y∈l,f y=false)->firstIdx f l= -1
 |[],_=>rfl
 |x::r,h=>by simp only[firstIdx,h x (by simp),Zfw (l:=r) (fun y hy=>h y (by simp[hy]))];simp
theorem ZgY {α:Type} (f:α->Bool): ∀ l:List α,0<=firstIdx f l↔l.any f=true
 |[]=>by simp[firstIdx]
 |x::r=>by
  have ih:=ZgY f r;have e:firstIdx f (x::r)=if f x=true then 0 else (if firstIdx f r<0 then -1 else firstIdx f r+1):=rfl;rw[e,List.any_cons,Bool.or_eq_true];by_cases hx:f x=true
  ·rw[if_pos hx];simp[hx]
  ·rw[if_neg hx];constructor
   ·intro h;exact .inr (ih.1 (by split at h<;>omega))
   ·intro h;have:=ih.2 (h.resolve_left hx);rw[if_neg (by omega)];omega
def Zl (n:Int):Bool:=inB n (-400000000) 400000000
def Zdp (xs:List Int):Bool:=xs.all Zl
theorem Za2 {n:Int} (h:Zl n=true): -400000000<=n/\n<=400000000:=by unfold Zl inB at h;simpa using h
theorem ZI {n:Int}:Zl n=true↔ -400000000<=n/\n<=400000000:=by unfold Zl inB;simp
theorem Zfd (h:xs[k]? =some x):Zdp (xs.take (k+1))=(Zdp (xs.take k)&&Zl x):=by
 rw[ZH h];unfold Zdp;simp
theorem Zk5 (h:xs[k]? =some x) (hx:Zl x=false):Zdp xs=false:=by
 unfold Zdp;rw[List.all_eq_false];exact ⟨x,List.mem_of_getElem? h,by simp[hx]⟩
def Zbf (m:Mat):Bool:=decide (0<=m.rows/\m.rows<=24/\0<=m.cols/\m.cols<=24/\(m.cells.length:Int)=m.rows*m.cols)
def Ze (m:Mat):Bool:=Zbf m&&Zdp m.cells
theorem ZQ (n:Int) (w:World):Calls Tryz.prog 79 #[Yv Yi n] w fun e w'=>e= .returned (.bool (Zl n))/\w=w':=by
 by_cases h1: -400000000<=n
 ·by_cases h2:n<=400000000
  ·have H:=hid (ZI.2 ⟨h1,h2⟩);go_enter Tryz.func79,Tryz.ntmps79;go_wp2;go_ret;exact ⟨by rw[H.out];rfl,rfl⟩
  ·have H:=hid (show Zl n=false by cases h:Zl n with |false=>rfl|true=>exact absurd (Za2 h).2 h2);go_enter Tryz.func79,Tryz.ntmps79;go_wp2;go_ret;exact ⟨by rw[H.out];rfl,rfl⟩
 ·have H:=hid (show Zl n=false by cases h:Zl n with |false=>rfl|true=>exact absurd (Za2 h).1 h1);go_enter Tryz.func79,Tryz.ntmps79;go_wp2;go_ret;exact ⟨by rw[H.out];rfl,rfl⟩
theorem Zif (n:Int) (w:World):Calls Tryz.prog 90 #[Yv Yi n] w fun e w'=>e= .returned (.bool (Zl n))/\w=w':=by
 go_enter Tryz.func90,Tryz.ntmps90;go_wp2_with fail;refine (ZbX _ _ _ _).mono ?_;rintro e w' ⟨rfl,rfl⟩;go_wp2;go_ret;exact ⟨rfl,rfl⟩
theorem Zlt (a:Option Addr) (n cap:Nat) (xs:List Int) (w:World) (h:RdI w S a n cap xs) (hn:n<=2097152):
  Calls Tryz.prog 97 #[.slice a n cap] w fun e w'=>e= .returned (.bool (Zdp xs))/\w=w':=by
 have hl:=h.len;go_enter Tryz.func97,Tryz.ntmps97;go_wp2;go_loopw [7] (fun i wr=>w=wr/\ ∃ k:Nat,k<=n/\i=Yv Yi k/\Zdp (xs.take k)=true) (fun i _=>n-(intOf i).toNat);case atStart=>exact ⟨by trivial,0,Nat.zero_le _,rfl,rfl⟩
 case round=>
  obtain ⟨rfl,k,hk,rfl,hall⟩:=hrel;have Hall:=hid hall;clear hall;by_cases hlt:k<n
  ·obtain ⟨b,off,x,rfl,hx,hr,_,hb,hc⟩:=h.at hlt;have Hx:=hid hx;clear hx;unfold I64 at hr;cases hN:Zl x with
   |true=>
    have HN:=hid hN;clear hN;go_wp2_with fail;refine (ZQ _ _).mono ?_;rintro e w' ⟨rfl,rfl⟩;rw[HN.out];go_wp2;go_roundw;case rel=>exact ⟨by trivial,k+1,by omega,by go_num,by rw[Zfd Hx.out,Hall.out,HN.out];rfl⟩
    case measure=>simp[intOf];omega
   |false=>have HN:=hid hN;clear hN;go_wp2_with fail;refine (ZQ _ _).mono ?_;rintro e w' ⟨rfl,rfl⟩;rw[HN.out];go_wp2;go_ret;exact ⟨by rw[Zk5 Hx.out HN.out];rfl,rfl⟩
  ·have:k=n:=(by omega);subst this;rw[Z7 hl] at Hall;go_wp2;go_ret;exact ⟨by rw[Hall.out];rfl,rfl⟩
theorem Zz (h:VM w S v m) (hb:bdM m<=2097152):
  Calls Tryz.prog 65 #[v] w fun e w'=>e= .returned (.bool (Ze m))/\Grow w w':=by
 obtain ⟨a,n,c,rfl,h,hr,hc⟩:=h;have hl:=h.len;unfold bdM at hb;obtain ⟨r,k,cells⟩:=m;simp only at *;unfold I64 at hr hc;have hG:Grow w (w.alloc (.cells #[Yv Yi r,Yv Yi k, .slice a n c] 34)):=(Grow.refl w).alloc _ _;by_cases h1:0<=r
 ·by_cases h2:r<=24
  ·by_cases h3:0<=k
   ·by_cases h4:k<=24
    ·obtain ⟨R,rfl⟩:=Int.eq_ofNat_of_zero_le h1;obtain ⟨K,rfl⟩:=Int.eq_ofNat_of_zero_le h3;have hm:R*K<=24*24:=Nat.mul_le_mul (by omega) (by omega);have hmul:((R:Int)*(K:Int))=((R*K:Nat):Int):=(by simp);have hw1:IntKind.i64.wrap ((R:Int)*K)=((R*K:Nat):Int):=(by rw[hmul];exact IntWalk.i64_in _ (by omega));obtain ⟨p,hp⟩: ∃ p,p=R*K:=⟨_,rfl⟩;rw[←hp] at hw1;by_cases h5:n=p
     ·have q1:((n:Int)==(p:Int))=true:=(by simp[h5]);have q2:((n:Int)!=(p:Int))=false:=(by simp[h5]);have Hsh:=hid (show Zbf ⟨(R:Int),(K:Int),cells⟩=true by unfold Zbf;simp only[decide_eq_true_eq];refine ⟨h1,h2,h3,h4, ?_⟩;rw[hmul];omega);clear hmul hp h5 hm;go_enter Tryz.func65,Tryz.ntmps65;go_wp2_with fail;refine (Zlt _ _ _ cells _ (h.grow hG) (by omega)).mono ?_;rintro e w' ⟨rfl,rfl⟩;go_wp2;go_ret;exact ⟨by unfold Ze;rw[Hsh.out];simp,hG⟩
     ·have q1:((n:Int)==(p:Int))=false:=(by simp;omega);have q2:((n:Int)!=(p:Int))=true:=(by simp;omega);have H:=hid (show Ze ⟨(R:Int),(K:Int),cells⟩=false by unfold Ze Zbf;rw[decide_eq_false (fun hh=>h5 (by have:=hh.2.2.2.2;rw[hmul] at this;simp only at this;omega))];rfl);clear hmul hp h5 hm;go_enter Tryz.func65,Tryz.ntmps65;go_wp2;go_ret;exact ⟨by rw[H.out];rfl,hG⟩
    ·have H:=hid (show Ze ⟨r,k,cells⟩=false by unfold Ze Zbf;rw[decide_eq_false (fun hh=>h4 hh.2.2.2.1)];rfl);go_enter Tryz.func65,Tryz.ntmps65;go_wp2;go_ret;exact ⟨by rw[H.out];rfl,hG⟩
   ·have H:=hid (show Ze ⟨r,k,cells⟩=false by unfold Ze Zbf;rw[decide_eq_false (fun hh=>h3 hh.2.2.1)];rfl);go_enter Tryz.func65,Tryz.ntmps65;go_wp2;go_ret;exact ⟨by rw[H.out];rfl,hG⟩
  ·have H:=hid (show Ze ⟨r,k,cells⟩=false by unfold Ze Zbf;rw[decide_eq_false (fun hh=>h2 hh.2.1)];rfl);go_enter Tryz.func65,Tryz.ntmps65;go_wp2;go_ret;exact ⟨by rw[H.out];rfl,hG⟩
 ·have H:=hid (show Ze ⟨r,k,cells⟩=false by unfold Ze Zbf;rw[decide_eq_false (fun hh=>h1 hh.1)];rfl);go_enter Tryz.func65,Tryz.ntmps65;go_wp2;go_ret;exact ⟨by rw[H.out];rfl,hG⟩
theorem Zai (a:Option Addr) (n cp C i j idx:Nat) (R x:Int) (cells:List Int) (w:World) (h:RdI w S a n cp cells) (hidx:idx=i*C+j) (hx:cells[idx]? =some x) (hn:n<=1048576) (hi:i<=1048576) (hC:C<=1048576) (_hj:j<=1048576):
  Calls Tryz.prog 106 #[.agg #[Yv Yi R,Yv Yi C, .slice a n cp],Yv Yi i,Yv Yi j] w fun e w'=>e= .returned (Yv Yi x)/\Grow w w':=by
 have hl:=h.len;have hlt:idx<n:=by rw[←hl];exact (List.getElem?_eq_some_iff.1 hx).1
 have hG:Grow w (w.alloc (.cells #[Yv Yi R,Yv Yi C, .slice a n cp] 34)):=(Grow.refl w).alloc _ _;have hiC:i*C<=1048576*1048576:=Nat.mul_le_mul hi hC;obtain ⟨b,off,y,rfl,hy,hr,_,hb,hc⟩:=(h.grow hG).at hlt;obtain rfl:x=y:=Option.some.inj (hx.symm.trans hy);clear hx hy;have hw1:IntKind.i64.wrap ((i:Int)*C)=(i:Int)*C:=by
  have:((i:Int)*C)=((i*C:Nat):Int):=by simp
  rw[this];exact IntWalk.i64_in _ (by omega)
 have hsum:((i:Int)*C+j)=((idx:Nat):Int):=by rw[hidx];simp
 have hw2:IntKind.i64.wrap ((i:Int)*C+j)=(idx:Int):=by rw[hsum];exact IntWalk.i64_in _ (by omega)
 clear hsum hidx;go_enter Tryz.func106,Tryz.ntmps106;go_wp2;go_ret;exact ⟨rfl,hG⟩
theorem ZhW:inB x lo hi=true↔lo<=x/\x<=hi:=by unfold inB;simp
theorem Zlu (h: ¬ (lo<=x/\x<=hi)):inB x lo hi=false:=by
 cases e:inB x lo hi with
 |false=>rfl
 |true=>exact absurd (ZhW.1 e) h
theorem Zfy (h:VM w S v m) (hb:bdM m<=2097152):
  Calls Tryz.prog 51 #[v] w fun e w'=>e= .returned (.bool (Ze m))/\Grow w w':=by
 obtain ⟨a,n,c,rfl,h,hr,hc⟩:=h;have hl:=h.len;unfold bdM at hb;obtain ⟨r,k,cells⟩:=m;simp only at *;unfold I64 at hr hc;have hG:Grow w (w.alloc (.cells #[Yv Yi r,Yv Yi k, .slice a n c] 34)):=(Grow.refl w).alloc _ _;by_cases h1:0<=r/\r<=24
 ·have I1:=hid (ZhW.2 h1);by_cases h2:0<=k/\k<=24
  ·have I2:=hid (ZhW.2 h2);obtain ⟨R,rfl⟩:=Int.eq_ofNat_of_zero_le h1.1;obtain ⟨K,rfl⟩:=Int.eq_ofNat_of_zero_le h2.1;have hm:R*K<=24*24:=Nat.mul_le_mul (by omega) (by omega);have hmul:((R:Int)*(K:Int))=((R*K:Nat):Int):=(by simp);have hw1:IntKind.i64.wrap ((R:Int)*K)=((R*K:Nat):Int):=(by rw[hmul];exact IntWalk.i64_in _ (by omega));obtain ⟨p,hp⟩: ∃ p,p=R*K:=⟨_,rfl⟩;rw[←hp] at hw1;by_cases h5:n=p
   ·have q1:((n:Int)==(p:Int))=true:=(by simp[h5]);have q2:((n:Int)!=(p:Int))=false:=(by simp[h5]);have Hsh:=hid (show Zbf ⟨(R:Int),(K:Int),cells⟩=true by unfold Zbf;simp only[decide_eq_true_eq];refine ⟨h1.1,h1.2,h2.1,h2.2, ?_⟩;rw[hmul];omega);clear hmul hp h5 hm;have hB0:=Blk.new w #[Yv Yi (R:Int),Yv Yi (K:Int), .slice a n c] 34;go_enter Tryz.func51,Tryz.ntmps51;go_wp2_with fail;refine (ZbX _ _ _ _).mono ?_;rintro e w' ⟨rfl,rfl⟩;rw[I1.out];go_wp2_with fail;refine (ZbX _ _ _ _).mono ?_;rintro e w' ⟨rfl,rfl⟩;rw[I2.out];go_wp2;go_loopw [3] (fun i wr=>(w.alloc (.cells #[Yv Yi (R:Int),Yv Yi (K:Int), .slice a n c] 34))=wr/\ ∃ k:Nat,k<=n/\i=Yv Yi k/\Zdp (cells.take k)=true) (fun i _=>n-(intOf i).toNat);case atStart=>exact ⟨by trivial,0,Nat.zero_le _,rfl,rfl⟩
    case round=>
     obtain ⟨rfl,i,hk,rfl,hall⟩:=hrel;have Hall:=hid hall;clear hall;by_cases hlt:i<n
     ·obtain ⟨b,off,x,rfl,hx,hr,_,hb,hc⟩:=(h.grow hG).at hlt;have Hx:=hid hx;clear hx;unfold I64 at hr;cases hN:Zl x with
      |true=>
       have HN:=hid hN;clear hN;go_wp2_with fail;refine (Zif _ _).mono ?_;rintro e w' ⟨rfl,rfl⟩;rw[HN.out];go_wp2;go_roundw;case rel=>exact ⟨by trivial,i+1,by omega,by go_num,by rw[Zfd Hx.out,Hall.out,HN.out];rfl⟩
       case measure=>simp[intOf];omega
      |false=>have HN:=hid hN;clear hN;go_wp2_with fail;refine (Zif _ _).mono ?_;rintro e w' ⟨rfl,rfl⟩;rw[HN.out];go_wp2;go_ret;exact ⟨by unfold Ze;rw[Zk5 Hx.out HN.out];simp,hG⟩
     ·have:i=n:=(by omega);subst this;rw[Z7 hl] at Hall;go_wp2;go_ret;exact ⟨by unfold Ze;rw[Hall.out,Hsh.out];rfl,hG⟩
   ·have q1:((n:Int)==(p:Int))=false:=(by simp;omega);have q2:((n:Int)!=(p:Int))=true:=(by simp;omega);have H:=hid (show Ze ⟨(R:Int),(K:Int),cells⟩=false by unfold Ze Zbf;rw[decide_eq_false (fun hh=>h5 (by have:=hh.2.2.2.2;rw[hmul] at this;simp only at this;omega))];rfl);clear hmul hp h5 hm;go_enter Tryz.func51,Tryz.ntmps51;go_wp2_with fail;refine (ZbX _ _ _ _).mono ?_;rintro e w' ⟨rfl,rfl⟩;rw[I1.out];go_wp2_with fail;refine (ZbX _ _ _ _).mono ?_;rintro e w' ⟨rfl,rfl⟩;rw[I2.out];go_wp2;go_ret;exact ⟨by rw[H.out];rfl,hG⟩
  ·have I2:=hid (Zlu h2);have H:=hid (show Ze ⟨r,k,cells⟩=false by unfold Ze Zbf;rw[decide_eq_false (fun hh=>h2 ⟨hh.2.2.1,hh.2.2.2.1⟩)];rfl);go_enter Tryz.func51,Tryz.ntmps51;go_wp2_with fail;refine (ZbX _ _ _ _).mono ?_;rintro e w' ⟨rfl,rfl⟩;rw[I1.out];go_wp2_with fail;refine (ZbX _ _ _ _).mono ?_;rintro e w' ⟨rfl,rfl⟩;rw[I2.out];go_wp2;go_ret;exact ⟨by rw[H.out];rfl,hG⟩
 ·have I1:=hid (Zlu h1);have H:=hid (show Ze ⟨r,k,cells⟩=false by unfold Ze Zbf;rw[decide_eq_false (fun hh=>h1 ⟨hh.1,hh.2.1⟩)];rfl);go_enter Tryz.func51,Tryz.ntmps51;go_wp2_with fail;refine (ZbX _ _ _ _).mono ?_;rintro e w' ⟨rfl,rfl⟩;rw[I1.out];go_wp2;go_ret;exact ⟨by rw[H.out];rfl,hG⟩
def okM (m:Mat):Mat:=if Ze m=true then m else {rows:=0,cols:=0,cells:=[]}
theorem Zn (h:Ze m=true): ∃ R C:Nat,m.rows=R/\m.cols=C/\R<=24/\C<=24/\m.cells.length=R*C/\ ∀ x∈m.cells, -400000000<=x/\x<=400000000:=by
 unfold Ze Zbf at h;simp only[Bool.and_eq_true,decide_eq_true_eq] at h;obtain ⟨⟨h1,h2,h3,h4,h5⟩,h6⟩:=h;obtain ⟨R,hR⟩:=Int.eq_ofNat_of_zero_le h1;obtain ⟨C,hC⟩:=Int.eq_ofNat_of_zero_le h3;refine ⟨R,C,hR,hC,by omega,by omega, ?_,fun x hx=> ?_⟩
 ·rw[hR,hC] at h5;exact_mod_cast h5
 ·unfold Zdp at h6;exact Za2 (List.all_eq_true.1 h6 x hx)
theorem ZsC:bdM (okM m)<=576:=by
 unfold okM;split
 ·rename_i h;obtain ⟨R,C,_,_,h1,h2,h3,_⟩:=Zn h;have:=Nat.mul_le_mul h1 h2;unfold bdM;omega
 ·simp[bdM]
theorem ZjV (h:OM w F v m) (hb:bdM m<=2097152):
  Calls Tryz.prog 129 #[v] w fun e w'=> ∃ u,e= .returned (.tuple #[u, .bool (Ze m)])/\OM w' F u (okM m)/\Grow w w':=by
 obtain ⟨a,n,c,rfl,h,hx,hF,hr,hk⟩:=h;have hG2:Grow w ((w.alloc (.cells #[Yv Yi m.rows,Yv Yi m.cols, .slice a n c] 34)).alloc (.cells #[Yv Yi 0,Yv Yi 0, .slice none 0 0] 34)):=((Grow.refl w).alloc _ _).alloc _ _;have hb1:=(Blk.new w #[Yv Yi m.rows,Yv Yi m.cols, .slice a n c] 34).alloc (.cells #[Yv Yi 0,Yv Yi 0, .slice none 0 0] 34);have hb2:=Blk.newAt (w.alloc (.cells #[Yv Yi m.rows,Yv Yi m.cols, .slice a n c] 34)) #[Yv Yi 0,Yv Yi 0, .slice none 0 0] 34 (g:=w.heap.size+1) (by simp);have hO:OM w F (.agg #[Yv Yi m.rows,Yv Yi m.cols, .slice a n c]) m:=⟨a,n,c,rfl,h,hx,hF,hr,hk⟩;obtain ⟨⟨a0,a1,a2⟩, -⟩:=hb1.three;cases hM:Ze m with
 |true=>
  have HM:=hid hM;clear hM;go_enter Tryz.func129,Tryz.ntmps129;go_wp2_with fail;refine (Zz ((hO.grow hG2).rd (S:=fun _=>True) fun _ _=>trivial) hb).mono ?_;rintro e w3 ⟨rfl,hG3⟩;rw[HM.out];replace hb1:=hb1.grow hG3;replace hb2:=hb2.grow hG3;replace hO:=(hO.grow hG2).grow hG3;have hG:=hG2.trans hG3;have h0:=h;clear hG2 hG3 a0 a1 a2 h;obtain ⟨⟨a0,a1,a2⟩, -⟩:=hb1.three;obtain ⟨⟨c0,c1,c2⟩,f0,f1,f2⟩:=hb2.three;have hle:w.heap.size<=w.heap.size+1:=Nat.le_succ _;go_wp2;have hKs:Grow w (((w3.setCell ⟨w.heap.size+1,0,none⟩ (Yv Yi m.rows)).setCell ⟨w.heap.size+1,1,none⟩ (Yv Yi m.cols)).setCell ⟨w.heap.size+1,2,none⟩ (.slice a n c)):=((hG.setCell hle _).setCell hle _).setCell hle _;have _hKo:Keep (fun q=>q≠w.heap.size+1) w3 (((w3.setCell ⟨w.heap.size+1,0,none⟩ (Yv Yi m.rows)).setCell ⟨w.heap.size+1,1,none⟩ (Yv Yi m.cols)).setCell ⟨w.heap.size+1,2,none⟩ (.slice a n c)):=
   (((Keep.refl _ w3).setCell (fun _ e=>e rfl) _).setCell (fun _ e=>e rfl) _).setCell (fun _ e=>e rfl) _
  refine Zd Zc rfl rfl rfl (((hb2.set 0 _).set 1 _).set 2 _) ⟨_,rfl, ?_,hKs⟩;unfold okM;rw[if_pos HM.out];refine ⟨a,n,c,rfl,h0.grow hKs,hx,hF,hr,hk⟩
 |false=>have HM:=hid hM;clear hM;go_enter Tryz.func129,Tryz.ntmps129;go_wp2_with fail;refine (Zz ((hO.grow hG2).rd (S:=fun _=>True) fun _ _=>trivial) hb).mono ?_;rintro e w3 ⟨rfl,hG3⟩;rw[HM.out];replace hb1:=hb1.grow hG3;replace hb2:=hb2.grow hG3;replace hO:=(hO.grow hG2).grow hG3;have hG:=hG2.trans hG3;have h0:=h;clear hG2 hG3 a0 a1 a2 h;obtain ⟨⟨a0,a1,a2⟩, -⟩:=hb1.three;obtain ⟨⟨c0,c1,c2⟩,f0,f1,f2⟩:=hb2.three;have hle:w.heap.size<=w.heap.size+1:=Nat.le_succ _;go_wp2;have hKs:Grow w (((w3.setCell ⟨w.heap.size+1,0,none⟩ (Yv Yi 0)).setCell ⟨w.heap.size+1,1,none⟩ (Yv Yi 0)).setCell ⟨w.heap.size+1,2,none⟩ (.slice none 0 0)):=((hG.setCell hle _).setCell hle _).setCell hle _;refine Zd Zc rfl rfl rfl (((hb2.set 0 _).set 1 _).set 2 _) ⟨_,rfl, ?_,hKs⟩;unfold okM;rw[if_neg (by rw[HM.out];simp)];exact ⟨none,0,0,rfl,Own.nilw,(fun x hx=>by cases hx),(fun g hg=>by simp at hg),by simp[I64],by simp[I64]⟩
def Zei (a b:List Int) (n c i j:Nat):Nat->Int
 |0=>0
 |k+1=>Zei a b n c i j k+a.getD (i*n+k) 0*b.getD (k*c+j) 0
def Zip (a b:List Int) (n c i:Nat):Nat->List Int->List Int
 |0,cells=>cells
 |j+1,cells=>(Zip a b n c i j cells).set (i*c+j) (Zei a b n c i j n)
def ZdZ (a b:List Int) (n c r:Nat):Nat->List Int
 |0=>List.replicate (r*c) 0
 |i+1=>Zip a b n c i c (ZdZ a b n c r i)
def ZfF (a b:Mat):Mat:={rows:=a.rows,cols:=b.cols,cells:=ZdZ a.cells b.cells a.cols.toNat b.cols.toNat a.rows.toNat a.rows.toNat}
def Zbi (a b:Mat):Bool:=Ze a&&Ze b&&a.cols==b.rows
def ZB (a b:Mat):Bool:=Zbi a b&&Ze (ZfF a b)
def Zu (a b:Mat):Mat:=if Zbi a b=true then okM (ZfF a b) else {rows:=0,cols:=0,cells:=[]}
def NumL (l:List Int):Prop:= ∀ x∈l, -400000000<=x/\x<=400000000
theorem NumL.getD (h:NumL l) (i:Nat): -400000000<=l.getD i 0/\l.getD i 0<=400000000:=by
 by_cases hi:i<l.length
 ·have:l.getD i 0=l[i]:=by simp[List.getD,List.getElem?_eq_getElem hi]
  rw[this];exact h _ (List.getElem_mem hi)
 ·have:l.getD i 0=0:=by simp[List.getD,List.getElem?_eq_none (Nat.le_of_not_lt hi)]
  rw[this];omega
theorem ZfQ {y:Int} (hx: -400000000<=x/\x<=400000000) (hy: -400000000<=y/\y<=400000000): -160000000000000000<=x*y/\x*y<=160000000000000000:=by
 have h:(x*y).natAbs<=400000000*400000000:=by rw[Int.natAbs_mul];exact Nat.mul_le_mul (by omega) (by omega)
 omega
theorem Zf8 {a b:List Int} (ha:NumL a) (hb:NumL b) (n c i j:Nat): ∀ k:Nat, -160000000000000000*(k:Int)<=Zei a b n c i j k/\Zei a b n c i j k<=160000000000000000*(k:Int)
 |0=>by simp[Zei]
 |k+1=>by
  have h1:=Zf8 ha hb n c i j k;have h2:=ZfQ (ha.getD (i*n+k)) (hb.getD (k*c+j));unfold Zei
  push_cast
  omega
theorem Zk3 (a b:List Int) (n c i:Nat): ∀ (j:Nat) (cells:List Int),(Zip a b n c i j cells).length=cells.length
 |0,_=>rfl
 |j+1,cells=>by unfold Zip;simp[Zk3 a b n c i j cells]
theorem Zj2 (a b:List Int) (n c r:Nat): ∀ i,(ZdZ a b n c r i).length=r*c
 |0=>by simp[ZdZ]
 |i+1=>by unfold ZdZ;rw[Zk3,Zj2 a b n c r i]
theorem ZlY {a b:List Int} (ha:NumL a) (hb:NumL b) {n:Nat} (hn:n<=24) (c i:Nat): ∀ (j:Nat) (cells:List Int),(∀ y∈cells,I64 y)-> ∀ y∈Zip a b n c i j cells,I64 y
 |0,_,h=>h
 |j+1,cells,h=>by
  have ih:=ZlY ha hb hn c i j cells h;intro y hy;unfold Zip at hy;rcases List.mem_or_eq_of_mem_set hy with h1|h1
  ·exact ih y h1
  ·have:=Zf8 ha hb n c i j n;subst h1;unfold I64;omega
theorem Zke {a b:List Int} (ha:NumL a) (hb:NumL b) {n:Nat} (hn:n<=24) (c r:Nat): ∀ i, ∀ y∈ZdZ a b n c r i,I64 y
 |0=>ZoA
 |i+1=>by unfold ZdZ;exact ZlY ha hb hn c i c _ (Zke ha hb hn c r i)
theorem ZdU {i c:Nat} (hi:i<=1048576) (hc:c<=1048576):IntKind.i64.wrap ((i:Int)*c)=(i:Int)*c:=by
 have h:i*c<=1048576*1048576:=Nat.mul_le_mul hi hc;have:((i:Int)*c)=((i*c:Nat):Int):=by simp
 rw[this];exact IntWalk.i64_in _ (by omega)
theorem getD_at (h:l[k]? =some x):l.getD k 0=x:=by simp[List.getD,h]
theorem ZfY (h:Zbi A B=true): ∃ R N C:Nat,A.rows=R/\A.cols=N/\B.rows=N/\B.cols=C/\R<=24/\N<=24/\C<=24/\A.cells.length=R*N/\B.cells.length=N*C/\NumL A.cells/\NumL B.cells:=by
 unfold Zbi at h;simp only[Bool.and_eq_true,beq_iff_eq] at h;obtain ⟨⟨h1,h2⟩,h3⟩:=h;obtain ⟨R,N,r1,r2,r3,r4,r5,r6⟩:=Zn h1;obtain ⟨N',C,s1,s2,s3,s4,s5,s6⟩:=Zn h2;have:N'=N:=by omega
 subst this;exact ⟨R,N',C,r1,r2,s1,s2,r3,r4,s4,r5,s5,r6,s6⟩
theorem OM.zero:OM w F (.agg #[Yv Yi 0,Yv Yi 0, .slice none 0 0]) {rows:=0,cols:=0,cells:=[]}:=
 ⟨none,0,0,rfl,Own.nilw,(fun x hx=>by cases hx),(fun g hg=>by simp at hg),by simp[I64],by simp[I64]⟩
theorem Zgl {R N C:Nat} (hr:A.rows=R) (hn:A.cols=N) (hc:B.cols=C):(ZfF A B).cells=ZdZ A.cells B.cells N C R R:=by
 unfold ZfF;simp only[hr,hn,hc,Int.toNat_natCast]
theorem ZqO (hF:Zbi A B=true): ∀ x∈(ZfF A B).cells,I64 x:=by
 obtain ⟨R,N,C,r1,r2,r3,r4,h1,h2,h3,_,_,n1,n2⟩:=ZfY hF;rw[Zgl r1 r2 r4];exact Zke n1 n2 h2 C R R
theorem ZmZ (hF:Zbi A B=true):bdM (ZfF A B)<=576:=by
 obtain ⟨R,N,C,r1,r2,r3,r4,h1,h2,h3,_,_,n1,n2⟩:=ZfY hF;unfold bdM;rw[Zgl r1 r2 r4,Zj2];exact Nat.mul_le_mul h1 h3
theorem Zcl {u:Value} (h:VM w S u A) (h':VM w T v B) (hb:bdM A<=2097152) (hb':bdM B<=2097152):
  Calls Tryz.prog 88 #[u,v] w fun e w'=> ∃ r,e= .returned (.tuple #[r, .bool (ZB A B)])/\OM w' (New w w') r (Zu A B)/\Grow w w':=by
 obtain ⟨aa,na,ca,rfl,hA,hAr,hAc⟩:=h;obtain ⟨ab,nb,cb,rfl,hB,hBr,hBc⟩:=h';have vA:VM w S (.agg #[Yv Yi A.rows,Yv Yi A.cols, .slice aa na ca]) A:=⟨aa,na,ca,rfl,hA,hAr,hAc⟩;have vB:VM w T (.agg #[Yv Yi B.rows,Yv Yi B.cols, .slice ab nb cb]) B:=⟨ab,nb,cb,rfl,hB,hBr,hBc⟩;obtain ⟨w3,hw3,hG3, -, -, -, -⟩:=al3 w #[Yv Yi A.rows,Yv Yi A.cols, .slice aa na ca] 34 #[Yv Yi B.rows,Yv Yi B.cols, .slice ab nb cb] 34 #[Yv Yi 0,Yv Yi 0, .slice none 0 0] 34;have hs3:w3.heap.size=w.heap.size+3:=by rw[hw3];simp
 have bA:Blk w3 w.heap.size #[Yv Yi A.rows,Yv Yi A.cols, .slice aa na ca] 34:=by rw[hw3];exact ((Blk.new w _ _).alloc _).alloc _
 have bB:Blk w3 (w.heap.size+1) #[Yv Yi B.rows,Yv Yi B.cols, .slice ab nb cb] 34:=by rw[hw3];exact (Blk.newAt _ _ _ (by simp)).alloc _
 have bZ:Blk w3 (w.heap.size+2) #[Yv Yi 0,Yv Yi 0, .slice none 0 0] 34:=by rw[hw3];exact Blk.newAt _ _ _ (by simp)
 obtain ⟨⟨a0,a1,a2⟩, -⟩:=bA.three;rw[hw3] at a0 a1 a2;have Hw3:=hid hw3;clear hw3;cases hMA:Ze A with
 |false=>
  have hF:Zbi A B=false:=by unfold Zbi;rw[hMA];rfl
  have he:ZB A B=false:=by unfold ZB;rw[hF];rfl
  have he2:Zu A B={rows:=0,cols:=0,cells:=[]}:=by unfold Zu;rw[hF];rfl
  rw[he,he2];have HMA:=hid hMA;clear hMA hF he he2;go_enter Tryz.func88,Tryz.ntmps88;go_wp2_with fail;rw[←Hw3.out];refine (Zz (vA.grow hG3) hb).mono ?_;rintro e w4 ⟨rfl,hG4⟩;rw[HMA.out];have hG:=hG3.trans hG4;replace bZ:=bZ.grow hG4;obtain ⟨⟨z0,z1,z2⟩,g0,g1,g2⟩:=bZ.three;go_wp2;have hle:w.heap.size<=w.heap.size+2:=by omega
  refine Zd Zc rfl rfl rfl (((bZ.set 0 _).set 1 _).set 2 _) ⟨_,rfl,OM.zero, ?_⟩;exact ((hG.setCell hle _).setCell hle _).setCell hle _
 |true=>
  have HMA:=hid hMA;clear hMA;cases hMB:Ze B with
  |false=>have hF:Zbi A B=false:=(by unfold Zbi;rw[HMA.out,hMB];rfl);have he:ZB A B=false:=(by unfold ZB;rw[hF];rfl);have he2:Zu A B={rows:=0,cols:=0,cells:=[]}:=(by unfold Zu;rw[hF];rfl);rw[he,he2];have HMB:=hid hMB;clear hMB hF he he2;go_enter Tryz.func88,Tryz.ntmps88;go_wp2_with fail;rw[←Hw3.out];refine (Zz (vA.grow hG3) hb).mono ?_;rintro e w4 ⟨rfl,hG4⟩;rw[HMA.out];clear a0 a1 a2;obtain ⟨⟨b0,b1,b2⟩, -⟩:=(bB.grow hG4).three;go_wp2_with fail;refine (Zz ((vB.grow hG3).grow hG4) hb').mono ?_;rintro e w5 ⟨rfl,hG5⟩;rw[HMB.out];clear b0 b1 b2;have hG:=(hG3.trans hG4).trans hG5;replace bA:=(bA.grow hG4).grow hG5;replace bB:=(bB.grow hG4).grow hG5;replace bZ:=(bZ.grow hG4).grow hG5;obtain ⟨⟨a0,a1,a2⟩, -⟩:=bA.three;obtain ⟨⟨b0,b1,b2⟩, -⟩:=bB.three;obtain ⟨⟨z0,z1,z2⟩,g0,g1,g2⟩:=bZ.three;go_wp2;have hle:w.heap.size<=w.heap.size+2:=(by omega);refine Zd Zc rfl rfl rfl (((bZ.set 0 _).set 1 _).set 2 _) ⟨_,rfl,OM.zero, ?_⟩;exact ((hG.setCell hle _).setCell hle _).setCell hle _
  |true=>
   have HMB:=hid hMB;clear hMB;by_cases hcr:A.cols=B.rows
   ·have hF:Zbi A B=true:=(by unfold Zbi;rw[HMA.out,HMB.out];simp[hcr]);have he:ZB A B=Ze (ZfF A B):=(by unfold ZB;rw[hF];rfl);have he2:Zu A B=okM (ZfF A B):=(by unfold Zu;rw[if_pos hF]);rw[he,he2];have q1:(A.cols==B.rows)=true:=(by simp[hcr]);have q2:(A.cols !=B.rows)=false:=(by simp[hcr]);have HF:=hid hF;clear hF he he2 hcr;go_enter Tryz.func88,Tryz.ntmps88;go_wp2_with fail;rw[←Hw3.out];refine (Zz (vA.grow hG3) hb).mono ?_;rintro e w4 ⟨rfl,hG4⟩;rw[HMA.out];clear a0 a1 a2;obtain ⟨⟨b0,b1,b2⟩, -⟩:=(bB.grow hG4).three;go_wp2_with fail;refine (Zz ((vB.grow hG3).grow hG4) hb').mono ?_;rintro e w5 ⟨rfl,hG5⟩;rw[HMB.out];clear b0 b1 b2;have hG:=(hG3.trans hG4).trans hG5;replace bA:=(bA.grow hG4).grow hG5;replace bB:=(bB.grow hG4).grow hG5;replace bZ:=(bZ.grow hG4).grow hG5;obtain ⟨⟨a0,a1,a2⟩, -⟩:=bA.three;obtain ⟨⟨b0,b1,b2⟩, -⟩:=bB.three;obtain ⟨⟨z0,z1,z2⟩,g0,g1,g2⟩:=bZ.three;go_wp2_with fail;have hx:=ZqO HF.out;have hbd:=ZmZ HF.out;obtain ⟨R,N,C,r1,r2,r3,r4,hR,hN,hC,l1,l2,n1,n2⟩:=ZfY HF.out;have hcells:=hid (Zgl r1 r2 r4);rw[r1,r2] at bA;rw[r1] at a0;rw[r2] at a1;rw[r3,r4] at bB;rw[r3] at b0;rw[r4] at b1;simp only[r1,r2,r3,r4];refine (Zb1 R C _ (by omega) (by omega)).mono ?_;rintro e w6 ⟨am,rfl,hO,hB6,hG6⟩;have hs6:=hG6.size;have hz5:=bZ.lt;have hrA:RdI w6 (fun q=>blk am≠some q) aa na ca A.cells:=((hA.grow hG).weak (T:=fun b=>b<w5.heap.size) (fun _ hb _=>hb)).grow hG6 |>.weak fun b _ hb e=>(by have:=hB6 b e;omega);have hrB:RdI w6 (fun q=>blk am≠some q) ab nb cb B.cells:=((hB.grow hG).weak (T:=fun b=>b<w5.heap.size) (fun _ hb _=>hb)).grow hG6 |>.weak fun b _ hb e=>(by have:=hB6 b e;omega);have nA:blk am≠some w.heap.size:=fun e=>(by have:=hB6 _ e;omega);have nB:blk am≠some (w.heap.size+1):=fun e=>(by have:=hB6 _ e;omega);have nZ:blk am≠some (w.heap.size+2):=fun e=>(by have:=hB6 _ e;omega);have nM:blk am≠some w6.heap.size:=fun e=>(by have:=hO.lt e;omega);replace bA:=bA.grow hG6;replace bB:=bB.grow hG6;replace bZ:=bZ.grow hG6;have hRC:R*C<=24*24:=Nat.mul_le_mul hR hC;have bM0:=Blk.newAt w6 #[Yv Yi (R:Int),Yv Yi (C:Int), .slice am (R*C) (R*C)] 34 rfl;have hGb:Grow w6 (w6.alloc (.cells #[Yv Yi (R:Int),Yv Yi (C:Int), .slice am (R*C) (R*C)] 34)):=(Grow.refl _).alloc _ _;have hla:=hA.len;have hlb:=hB.len;have Hx:=hid l1;have Hy:=hid l2;have Hl:=hid hla;have Hl':=hid hlb;clear l1 l2 hla hlb a0 a1 a2 b0 b1 b2 z0 z1 z2 g0 g1 g2 Hw3;go_wp2;go_loopw [7] (fun q wr=>Keep (fun q=>blk am≠some q) w6 wr/\Blk wr w6.heap.size #[Yv Yi (R:Int),Yv Yi (C:Int), .slice am (R*C) (R*C)] 34/\ ∃ i:Nat,i<=R/\q=Yv Yi i/\Own wr 3 1 am (R*C) (R*C) (ints (ZdZ A.cells B.cells N C R i))) (fun q _=>R-(intOf q).toNat);case atStart=>exact ⟨hGb.any,bM0,0,Nat.zero_le _,rfl,hO.grow hGb⟩
    case round=>
     clear bM0 hO hGb;obtain ⟨hK,bM,i,hi,rfl,hO⟩:=hrel;have bAr:=bA.keep hK nA;obtain ⟨⟨a0,a1,a2⟩, -⟩:=bAr.three;by_cases hin:i<R
     ·have bBr:=bB.keep hK nB;obtain ⟨⟨b0,b1,b2⟩, -⟩:=bBr.three;obtain ⟨wo,rfl⟩: ∃ wo:World,wo=wr:=⟨_,rfl⟩;go_wp2;go_loopw [8] (fun q wr=>Keep (fun q=>blk am≠some q) wo wr/\ ∃ j:Nat,j<=C/\q=Yv Yi j/\Own wr 3 1 am (R*C) (R*C) (ints (Zip A.cells B.cells N C i j (ZdZ A.cells B.cells N C R i)))) (fun q _=>C-(intOf q).toNat);case atStart=>exact ⟨Keep.refl _ _,0,Nat.zero_le _,rfl,hO⟩
      case round=>
       clear hO a0 a1 a2 b0 b1 b2;obtain ⟨hKi,j,hj,rfl,hO⟩:=hrel;have bBi:=bBr.keep hKi nB;have bAi:=bAr.keep hKi nA;obtain ⟨⟨b0,b1,b2⟩, -⟩:=bBi.three;obtain ⟨⟨a0,a1,a2⟩, -⟩:=bAi.three;by_cases hjn:j<C
       ·skip
        obtain ⟨wp,rfl⟩: ∃ wp:World,wp=wr:=⟨_,rfl⟩;go_wp2;go_loopw [9,10] (fun sv q wr=>Grow wp wr/\ ∃ k:Nat,k<=N/\q=Yv Yi k/\sv=Yv Yi (Zei A.cells B.cells N C i j k)) (fun _ q _=>N-(intOf q).toNat);case atStart=>exact ⟨Grow.refl _,0,Nat.zero_le _,rfl,rfl⟩
        case round=>
         clear a0 a1 a2 b0 b1 b2;obtain ⟨hGi,k,hk,rfl,rfl⟩:=hrel;have hKw:Keep (fun q=>blk am≠some q) w6 wp:=hK.trans hKi;have bAk:=bAi.grow hGi;have bBk:=bBi.grow hGi;obtain ⟨⟨a0,a1,a2⟩, -⟩:=bAk.three;by_cases hkn:k<N
         ·have hNC:=Zmj hkn hjn;have hRN:=Zmj hin hkn;obtain ⟨x,hxx⟩: ∃ x,A.cells[i*N+k]? =some x:=⟨_,List.getElem?_eq_getElem (by rw[Hx.out];exact hRN)⟩;obtain ⟨y,hyy⟩: ∃ y,B.cells[k*C+j]? =some y:=⟨_,List.getElem?_eq_getElem (by rw[Hy.out];exact hNC)⟩;have hrAw:=hrA.keep hKw fun _ _ h=>h;have hrBw:=hrB.keep hKw fun _ _ h=>h;have hna:na<=576:=(by have:=Nat.mul_le_mul hR hN;have:=Hl.out;have:=Hx.out;omega);have hnb:nb<=576:=(by have:=Nat.mul_le_mul hN hC;have:=Hl'.out;have:=Hy.out;omega);have hxn:=n1.getD (i*N+k);have hyn:=n2.getD (k*C+j);rw[getD_at hxx] at hxn;rw[getD_at hyy] at hyn;have hxy:=ZfQ hxn hyn;have hd:=Zf8 n1 n2 N C i j k;have hdk:=hid (show Zei A.cells B.cells N C i j (k+1)=Zei A.cells B.cells N C i j k+x*y by conv=>{lhs;unfold Zei};rw[getD_at hxx,getD_at hyy]);have HX:=hid hxx;have HY:=hid hyy;clear hNC hRN hxx hyy hxn hyn;obtain ⟨p,hp⟩: ∃ p,p=x*y:=⟨_,rfl⟩;rw[←hp] at hxy hdk;have u5:IntKind.i64.wrap (x*y)=p:=(by rw[←hp];exact IntWalk.i64_in _ (by omega));clear hp;generalize Zei A.cells B.cells N C i j k=dv at *;have u6:IntKind.i64.wrap (dv+p)=dv+p:=IntWalk.i64_in _ (by omega);go_wp2;refine ZkT (S:=Grow wr) [0,1,2,3,5,6,7] [4,8,9,10,11] Zm (by kernel_rfl) (fun _ _ _ _ _ h=>h) (Grow.refl _).drew ?_;show wpQuiet _ _ _ (fun a'=>Zbk _ _ _ _ [_,_,_,_,_] a' _) [_,_,_,_,_,_,_] _;(repeat (first |(go_big_quiet_want;(first |refine Zh Zc rfl rfl (fun w' hG=>bAk.grow hG) ?_|refine Zh Zc rfl rfl (fun w' hG=>bBk.grow hG) ?_);go_big_quiet_on;simp only[putP])|go_big_quiet_step (exact fun _=>rfl)));refine wpQuiet_nil ?_;show Zbk _ _ _ _ _ _ _;refine Zcn rfl (fun K hK=> ?_);go_wp2_with fail;refine (Zai aa na ca N i k (i*N+k) (R:Int) x A.cells _ ((hrAw.grow hGi).grow (Grow.refl _).drew) rfl HX.out (by omega) (by omega) (by omega) (by omega)).mono ?_;rintro e w8 ⟨rfl,hG8⟩;have hG08:Grow wr w8:=(Grow.refl wr).drew.trans hG8;go_wp2_with fail;refine hK _ _ (hG08) ?_;clear hK K;refine Zcn rfl (fun K hK=> ?_);go_wp2_with fail;refine (Zai ab nb cb C k j (k*C+j) (N:Int) y B.cells _ ((hrBw.grow hGi).grow hG08) rfl HY.out (by omega) (by omega) (by omega) (by omega)).mono ?_;rintro e w9 ⟨rfl,hG9⟩;have hG09:=hG08.trans hG9;go_wp2_with fail;refine hK _ _ (hG09) ?_;clear hK K;refine Zcn rfl (fun K hK=> ?_);go_wp2_with fail;refine hK _ _ (hG09) ?_;clear hK K;refine Zcn rfl (fun K hK=> ?_);go_wp2_with fail;refine hK _ _ (hG09) ?_;clear hK K;refine Zcn rfl (fun K hK=> ?_);go_wp2_with fail;refine hK _ _ (hG09) ?_;clear hK K;refine Zmz ?_;go_wp2;go_roundw;case rel=>exact ⟨hGi.trans hG09,k+1,by omega,by go_num,by rw[hdk.out]⟩
          case measure=>simp[intOf];omega
         ·have hkN:k=N:=(by omega);subst hkN;have hd:=Zf8 n1 n2 k C i j k;have hdI:I64 (Zei A.cells B.cells k C i j k):=(by unfold I64;omega);have bMr:=(bM.keep hKi nM).grow hGi;obtain ⟨⟨m0,m1,m2⟩, -⟩:=bMr.three;obtain ⟨⟨b0,b1,b2⟩, -⟩:=bBk.three;unfold I64 at hdI;go_wp2_with fail;refine (ZhO am _ _ _ i j (i*C+j) _ _ _ _ (hO.grow hGi) rfl (Zmj hin hjn) (by omega) (by omega) (by omega) (by omega)).mono ?_;rintro e w8 ⟨rfl,hO8,hK8⟩;go_wp2;go_roundw;case rel=>exact ⟨(hKi.trans hGi.any).trans hK8,j+1,by omega,by go_num,hO8⟩
          case measure=>simp[intOf];omega
       ·have hjC:j=C:=(by omega);subst hjC;go_wp2;go_roundw;case rel=>exact ⟨hK.trans hKi,bM.keep hKi nM,i+1,by omega,by go_num,hO⟩
        case measure=>simp[intOf];omega
     ·have hi':i=R:=(by omega);subst hi';have hz5:=bZ.lt;have bZr:=bZ.keep hK nZ;obtain ⟨⟨m0,m1,m2⟩, -⟩:=bM.three;have hGr:Grow w wr:=(hG.trans hG6).keep hK fun q hq e=>(by have:=hB6 q e;have:=hG.size;omega);have hsr:=hGr.size;have hOM:OM wr (fun g=>w.heap.size+2<g/\g<wr.heap.size) (.agg #[Yv Yi (i:Int),Yv Yi (C:Int), .slice am (i*C) (i*C)]) (ZfF A B):=
       ⟨am,i*C,i*C,by simp only[ZfF,r1,r4],by rw[hcells.out];exact hO,hx,(fun g hg=>⟨by have:=hB6 g hg;omega,hO.lt hg⟩),hAr,hBc⟩
      go_wp2_with fail;refine (ZjV hOM (by omega)).mono ?_;rintro e w7 ⟨m7,rfl,hO7,hG7⟩;obtain ⟨a7,n7,c7,rfl,o7,x7,f7,i7,j7⟩:=hO7;have hs7:=hG7.size;replace bZr:=bZr.grow hG7;clear a0 a1 a2 m0 m1 m2;obtain ⟨⟨z0,z1,z2⟩,g0,g1,g2⟩:=bZr.three;go_wp2;have hle:w.heap.size<=w.heap.size+2:=(by omega);have hGa:Grow w w7:=hGr.trans hG7;refine Zd Zc rfl rfl rfl (((bZr.set 0 _).set 1 _).set 2 _) ⟨_,rfl,⟨a7,n7,c7,rfl, ?_,x7, ?_,i7,j7⟩,((hGa.setCell hle _).setCell hle _).setCell hle _⟩
      ·exact o7.keep ((((Keep.refl (fun q=>q≠w.heap.size+2) w7).setCell (fun _ e=>e rfl) _).setCell (fun _ e=>e rfl) _).setCell (fun _ e=>e rfl) _) (fun g hg _ e=>by have:=(f7 g hg).1;omega)
      ·intro g hg;have h1:=o7.lt hg;have h2:=(f7 g hg).1;exact ⟨by omega,by simpa using h1⟩
   ·have hF:Zbi A B=false:=(by unfold Zbi;rw[HMA.out,HMB.out];simp[hcr]);have he:ZB A B=false:=(by unfold ZB;rw[hF];rfl);have he2:Zu A B={rows:=0,cols:=0,cells:=[]}:=(by unfold Zu;rw[hF];rfl);rw[he,he2];have q1:(A.cols==B.rows)=false:=(by simp[hcr]);have q2:(A.cols !=B.rows)=true:=(by simp[hcr]);clear hF he he2 hcr;go_enter Tryz.func88,Tryz.ntmps88;go_wp2_with fail;rw[←Hw3.out];refine (Zz (vA.grow hG3) hb).mono ?_;rintro e w4 ⟨rfl,hG4⟩;rw[HMA.out];clear a0 a1 a2;obtain ⟨⟨b0,b1,b2⟩, -⟩:=(bB.grow hG4).three;go_wp2_with fail;refine (Zz ((vB.grow hG3).grow hG4) hb').mono ?_;rintro e w5 ⟨rfl,hG5⟩;rw[HMB.out];clear b0 b1 b2;have hG:=(hG3.trans hG4).trans hG5;replace bA:=(bA.grow hG4).grow hG5;replace bB:=(bB.grow hG4).grow hG5;replace bZ:=(bZ.grow hG4).grow hG5;obtain ⟨⟨a0,a1,a2⟩, -⟩:=bA.three;obtain ⟨⟨b0,b1,b2⟩, -⟩:=bB.three;obtain ⟨⟨z0,z1,z2⟩,g0,g1,g2⟩:=bZ.three;go_wp2;have hle:w.heap.size<=w.heap.size+2:=(by omega);refine Zd Zc rfl rfl rfl (((bZ.set 0 _).set 1 _).set 2 _) ⟨_,rfl,OM.zero, ?_⟩;exact ((hG.setCell hle _).setCell hle _).setCell hle _
def ZdX (l:List Int):Bool:=l.all fun x=>x==0
theorem ZiG (h:l[k]? =some x) (hx:(x==0)=false):ZdX l=false:=by
 unfold ZdX;rw[List.all_eq_false];exact ⟨x,List.mem_of_getElem? h,by simp[hx]⟩
theorem Zfe (h: ∀ x∈l,(x==0)=true):ZdX l=true:=by
 unfold ZdX;rw[List.all_eq_true];exact h
def Zjt (c:List Int):Mat:={rows:=1,cols:=c.length,cells:=c}
theorem ZmP (a:Option Addr) (n cap:Nat) (xs:List Int) (w:World) (h:RdI w S a n cap xs) (hn:n<=2097152):
  Calls Tryz.prog 194 #[.slice a n cap] w fun e w'=>e= .returned (.bool (ZdX xs))/\w=w':=by
 have hcl: ∀ (x:Int) (w:World),Calls Tryz.prog 210 #[Yv Yi x] w fun e w'=>e= .returned (.bool (!(x==0)))/\w=w':=fun x w=>by
  by_cases hx:x=0
  ·subst hx;go_enter Tryz.func210,Tryz.ntmps210;go_wp2;go_ret;exact ⟨Zt rfl,rfl⟩
  ·have e1:(x==0)=false:=(by simp[hx]);have e2:(x !=0)=true:=(by simp[hx]);clear hx;go_enter Tryz.func210,Tryz.ntmps210;go_wp2;go_ret;exact ⟨Zt (by rw[e1];rfl),rfl⟩
 have Hl:=hid h.len;have hidx:Calls Tryz.prog 159 #[.slice a n cap, .func (.func 210) #[] #[]] w fun e w'=>(∃ r:Int,e= .returned (Yv Yi r)/\decide (0<=r)= !ZdX xs)/\w=w':=by
  go_enter Tryz.func159,Tryz.ntmps159;go_wp2;go_loop [8] (fun i=> ∃ k:Nat,k<=n/\i=Yv Yi k/\ ∀ x∈xs.take k,(x==0)=true) (fun i=>n-(intOf i).toNat);case atStart=>exact ⟨0,Nat.zero_le _,rfl,by simp⟩
  case round=>
   obtain ⟨k,hk,rfl,he⟩:=hrel;have He:=hid he;clear he;by_cases hlt:k<n
   ·obtain ⟨b,off,x,rfl,hx,hr,_,hb,hc⟩:=h.at hlt;have Hx:=hid hx;clear hx;cases h0:x==0 with
    |true=>
     have H0:=hid h0;clear h0;go_wp2_with fail;refine (hcl _ _).mono ?_;rintro e w' ⟨rfl,rfl⟩;rw[H0.out];go_wp2
     go_round
     case rel=>
      refine ⟨k+1,by omega,by go_num,fun z hz=> ?_⟩;rw[ZH Hx.out,List.mem_append,List.mem_singleton] at hz;rcases hz with hz|rfl
      ·exact He.out z hz
      ·exact H0.out
     case measure=>simp[intOf];omega
    |false=>have H0:=hid h0;clear h0;go_wp2_with fail;refine (hcl _ _).mono ?_;rintro e w' ⟨rfl,rfl⟩;rw[H0.out];go_wp2;go_ret;exact ⟨⟨k,rfl,by rw[ZiG Hx.out H0.out];simp⟩,rfl⟩
   ·go_wp2;go_ret;have:k=n:=(by omega);subst this;have:=He.out;rw[Z7 Hl.out] at this;exact ⟨⟨-1,rfl,by rw[Zfe this];rfl⟩,rfl⟩
 have hcon:Calls Tryz.prog 209 #[.slice a n cap, .func (.func 210) #[] #[]] w fun e w'=>e= .returned (.bool (!ZdX xs))/\w=w':=by go_enter Tryz.func209,Tryz.ntmps209;go_wp2_with fail;refine hidx.mono ?_;rintro e w' ⟨⟨r,rfl,hr⟩,rfl⟩;have Hr:=hid hr;clear hr;go_wp2;go_ret;exact ⟨Zt Hr.out,rfl⟩
 clear hidx;go_enter Tryz.func194,Tryz.ntmps194;go_wp2_with fail;refine hcon.mono ?_;rintro e w' ⟨rfl,rfl⟩;cases hz:ZdX xs with
 |true=>have Hz:=hid hz;clear hz;go_wp2;go_ret;exact ⟨Zt (by rw[Hz.out]),rfl⟩
 |false=>have Hz:=hid hz;clear hz;go_wp2;go_ret;exact ⟨Zt (by rw[Hz.out]),rfl⟩
theorem Zmw (a:Option Addr) (n cap:Nat) (xs:List Int) (w:World) (h:RdI w S a n cap xs) (hn:n<=2097152):
  Calls Tryz.prog 123 #[.slice a n cap] w fun e w'=> ∃ r,e= .returned r/\OM w' (New w w') r (Zjt xs)/\Grow w w':=by
 have hl:=h.len;go_enter Tryz.func123,Tryz.ntmps123;have hE:Own (((w.alloc (.cells #[Yv Yi 0,Yv Yi 0, .slice none 0 0] 34)).alloc (.cells #[] 3))) 3 1 (some ⟨w.heap.size+1,0,none⟩) 0 0 []:=Own.freshAt (by simp) (by unfold maxLen;omega) rfl;have hbz:=(Blk.new w #[Yv Yi 0,Yv Yi 0, .slice none 0 0] 34).alloc (.cells #[] 3);have hGz:Grow w ((w.alloc (.cells #[Yv Yi 0,Yv Yi 0, .slice none 0 0] 34)).alloc (.cells #[] 3)):=((Grow.refl _).alloc _ _).alloc _ _;go_wp2_with (at_builtin;refine Zx rfl (.tmp 5) (.tmp 6) _ rfl T_ints rfl hE rfl (h.row.grow (((Grow.refl _).alloc _ _).alloc _ _)) (Zc9 _) (by omega) (by unfold maxLen;omega) ?_;intro a2 c2 w2 hA2;obtain ⟨⟨z0,z1,z2⟩,g0,g1,g2⟩:=(hbz.keep hA2.keep (by simp)).three);have hB2:=hbz.keep hA2.keep (by simp);have hG2:Grow w w2:=hA2.grow hGz (fun g hg=>by simp at hg;omega);have hl2:=hA2.lo (B:=w.heap.size+1) (by simp) (fun g hg=>by simp at hg;omega);have ho2:Own w2 3 1 a2 n c2 (ints xs):=by simpa using hA2.own
 have hK:Keep (fun q=>q≠w.heap.size) w2 (((w2.setCell ⟨w.heap.size,0,none⟩ (Yv Yi 1)).setCell ⟨w.heap.size,1,none⟩ (Yv Yi (n:Int))).setCell ⟨w.heap.size,2,none⟩ (.slice a2 n c2)):=
  (((Keep.refl _ w2).setCell (fun _ e=>e rfl) _).setCell (fun _ e=>e rfl) _).setCell (fun _ e=>e rfl) _
 have hof:=ho2.keep hK (fun g hg _ e=>by have:=hl2 g hg;omega);refine ZF Zc rfl rfl rfl (((hB2.set 0 (Yv Yi 1)).set 1 (Yv Yi (n:Int))).set 2 (.slice a2 n c2)) ⟨_,rfl,⟨a2,n,c2,by unfold Zjt;rw[←hl];rfl,hof,h.rng,fun g hg=>⟨by have:=hl2 g hg;omega,hof.lt hg⟩,by simp[Zjt,I64],by simp only[Zjt,I64,hl];omega⟩,hG2.keep hK fun q hq=>by omega⟩
theorem Own.ne_blk {e t:TypeId} {g:Nat} {ds:Array Value} (ho:Own w e sz a n cap cs) (hb:Blk w g ds t) (hne:e≠t):blk a≠some g:=fun h=>by
 cases a with
 |none=>simp at h
 |some p=>simp at h;obtain ⟨_,cur,h2,_⟩:=ho.block p rfl;rw[h] at h2;have:=h2.symm.trans hb;simp only[Option.some.injEq,Obj.cells.injEq] at this;exact hne this.2.1

end Go.Proofs.YtjpcgofidijigaaGreatDoor
