/- Numbers within the limit; matrices that are valid. -/
import Derived.Test.YtgjefeiddfjjnaaGreatDoorZInts
set_option maxHeartbeats 8000000
set_option maxRecDepth 100000
namespace Go.Proofs.YtgjefeiddfjjnaaGreatDoor
open Go.RowKit
open Lib (hid)
open Go.Value renaming int->Yv
open Go.IntKind renaming i64->Yi
open Blk renaming new->JP,newAt->Kk
open Grow renaming refl->JH
open Int renaming eq_ofNat_of_zero_le->LA
open IntWalk renaming i64_in->Kh
open List renaming all_eq_false->NH,all_eq_true->Kn,getD->KJ,getElem?_append_right->KS,getElem?_eq_getElem->JR,mem_of_getElem?->JX
open Nat renaming mul_le_mul->JL,zero_le->JI
open Go.Proofs.Tryz renaming func120->LK,func139->NI,func182->OU,func310->OX,func84->OQ,func87->MW,ntmps120->MZ,ntmps139->OW,ntmps182->OV,ntmps310->OY,ntmps84->OT,ntmps87->MX,prog->JG
open Go.Proofs.Tryz
variable {A B m:Mat} {F S T:Nat->Prop} {a:Option Addr} {c cap i k sz:Nat} {cs vs:List Value} {hi lo n x:Int} {l xs:List Int} {u v:Value} {w w':World} {xss:List (List Int)}
def Zi (n:Int):Bool:=inB n (-400000000) 400000000
def Zez (xs:List Int):Bool:=xs.all Zi
theorem ZbI (h:Zi n=true): -400000000<=n/\n<=400000000:=by unfold Zi inB at h;simpa using h
theorem ZB:Zi n=true↔ -400000000<=n/\n<=400000000:=by unfold Zi inB;simp
theorem ZgN (h:xs[k]? =some x):Zez (xs.take (k+1))=(Zez (xs.take k)&&Zi x):=by
 rw[ZH h];unfold Zez;simp
theorem Zoj (h:xs[k]? =some x) (hx:Zi x=false):Zez xs=false:=by
 unfold Zez;rw[NH];exact ⟨x,JX h,EC⟩
def ZbW (m:Mat):Bool:=decide (0<=m.rows/\m.rows<=24/\0<=m.cols/\m.cols<=24/\(m.cells.length:Int)=m.rows*m.cols)
def Zd (m:Mat):Bool:=ZbW m&&Zez m.cells
theorem Z0 (n:Int) (w:World):Calls JG 111 #[Yv Yi n] w fun e w'=>e= .returned (.bool (Zi n))/\w=w':=by
 by_cases a: -400000000<=n
 ·by_cases b:n<=400000000
  ·have H:=hid (ZB.2 ⟨a,b⟩);exact IB
  ·have H:=hid (show Zi n=false by cases h:Zi n with |false=>rfl|true=>exact absurd (ZbI h).2 b);exact IB
 ·have H:=hid (show Zi n=false by cases h:Zi n with |false=>rfl|true=>exact absurd (ZbI h).1 a);exact IB
theorem Zax (n:Int) (w:World):Calls JG 137 #[Yv Yi n] w fun e w'=>e= .returned (.bool (Zi n))/\w=w':=by
 go_enter func137,ntmps137;go_wp2_with fail;refine (ZaU _ _ _ _).mono ?_;rintro e w' ⟨rfl,rfl⟩;go_wp2;go_ret;exact Je
theorem Znd (a:Option Addr) (n cap:Nat) (xs:List Int) (w:World) (h:RdI w S a n cap xs) (hn:n<=2097152):
  Calls JG 66 #[.slice a n cap] w fun e w'=>e= .returned (.bool (Zez xs))/\w=w':=by
 have o:=h.len;go_enter func66,ntmps66;go_wp2;go_loopw [7] (fun i wr=>w=wr/\ ∃ k:Nat,k<=n/\i=Yv Yi k/\Zez (xs.take k)=true) (fun i _=>n-(intOf i).toNat);case atStart=>exact ⟨by trivial,0,JI _,rfl,rfl⟩
 case round=>
  obtain ⟨rfl,k,r,rfl,d⟩:=hrel;have c:=hid d;clear d;by_cases j:k<n
  ·obtain ⟨b,p,x,rfl,l,q,_,s,t⟩:=h.at j;have m:=hid l;clear l;unfold I64 at q;cases g:Zi x with
   |true=>
    have f:=hid g;clear g;go_wp2_with fail;refine (Z0 _ _).mono ?_;rintro e w' ⟨rfl,rfl⟩;rw[f.out];go_wp2;go_roundw;case rel=>exact ⟨by trivial,k+1,I,Δ,by rw[ZgN m.out,c.out,f.out];rfl⟩
    case measure=>exact FN
   |false=>have f:=hid g;clear g;go_wp2_with fail;refine (Z0 _ _).mono ?_;rintro e w' ⟨rfl,rfl⟩;rw[f.out];go_wp2;go_ret;exact ⟨by rw[Zoj m.out f.out];rfl,rfl⟩
  ·have:k=n:=I;subst this;rw[Z5 o] at c;go_wp2;go_ret;exact ⟨by rw[c.out];rfl,rfl⟩
theorem ZG (h:VM w S v m) (hb:bdM m<=2097152):
  Calls JG 31 #[v] w fun e w'=>e= .returned (.bool (Zd m))/\Grow w w':=by
 obtain ⟨a,n,c,rfl,h,t,x⟩:=h;have A:=h.len;unfold bdM at hb;obtain ⟨r,k,b⟩:=m;simp only at *;unfold I64 at t x;have hG:Grow w (w.alloc (.cells #[Yv Yi r,Yv Yi k, .slice a n c] 37)):=(JH w).alloc _ _;by_cases f:0<=r
 ·by_cases o:r<=24
  ·by_cases g:0<=k
   ·by_cases q:k<=24
    ·obtain ⟨R,rfl⟩:=LA f;obtain ⟨K,rfl⟩:=LA g;have s:R*K<=24*24:=JL I I;have hmul:((R:Int)*(K:Int))=((R*K:Nat):Int):=Θ;have i:IntKind.i64.wrap ((R:Int)*K)=((R*K:Nat):Int):=(by rw[hmul];exact Kh _ I);obtain ⟨p,j⟩:=eX (R*K);rw[←j] at i;by_cases d:n=p
     ·have y:((n:Int)==(p:Int))=true:=(by simp[d]);have z:((n:Int)!=(p:Int))=false:=(by simp[d]);have l:=hid (show ZbW ⟨(R:Int),(K:Int),b⟩=true by unfold ZbW;simp only[decide_eq_true_eq];refine ⟨f,o,g,q, ?_⟩;rw[hmul];omega);clear hmul j d s;go_enter func31,ntmps31;go_wp2_with fail;refine (Znd _ _ _ b _ (h.grow hG) I).mono ?_;rintro e w' ⟨rfl,rfl⟩;go_wp2;go_ret;exact ⟨by unfold Zd;rw[l.out];simp,hG⟩
     ·have y:((n:Int)==(p:Int))=false:=Ψ;have z:((n:Int)!=(p:Int))=true:=Ψ;have H:=hid (show Zd ⟨(R:Int),(K:Int),b⟩=false by unfold Zd ZbW;rw[decide_eq_false (fun hh=>d EG)];rfl);clear hmul j d s;exact GV
    ·have H:=hid (show Zd ⟨r,k,b⟩=false by unfold Zd ZbW;rw[decide_eq_false (fun hh=>q hh.2.2.2.1)];rfl);exact GV
   ·have H:=hid (show Zd ⟨r,k,b⟩=false by unfold Zd ZbW;rw[decide_eq_false (fun hh=>g hh.2.2.1)];rfl);exact GV
  ·have H:=hid (show Zd ⟨r,k,b⟩=false by unfold Zd ZbW;rw[decide_eq_false (fun hh=>o hh.2.1)];rfl);exact GV
 ·have H:=hid (show Zd ⟨r,k,b⟩=false by unfold Zd ZbW;rw[decide_eq_false (fun hh=>f hh.1)];rfl);exact GV
theorem ZaA (a:Option Addr) (n cp C i j idx:Nat) (R x:Int) (cells:List Int) (w:World) (h:RdI w S a n cp cells) (hidx:idx=i*C+j) (hx:cells[idx]? =some x) (hn:n<=1048576) (hi:i<=1048576) (hC:C<=1048576) (_hj:j<=1048576):
  Calls JG 160 #[.agg #[Yv Yi R,Yv Yi C, .slice a n cp],Yv Yi i,Yv Yi j] w fun e w'=>e= .returned (Yv Yi x)/\Grow w w':=by
 have k:=h.len;have d:idx<n:=by rw[←k];exact (List.getElem?_eq_some_iff.1 hx).1
 have f:Grow w (w.alloc (.cells #[Yv Yi R,Yv Yi C, .slice a n cp] 37)):=(JH w).alloc _ _;have l:i*C<=1048576*1048576:=JL hi hC;obtain ⟨b,m,y,rfl,g,q,_,r,s⟩:=(h.grow f).at d;obtain rfl:x=y:=Option.some.inj (hx.symm.trans g);clear hx g;have o:IntKind.i64.wrap ((i:Int)*C)=(i:Int)*C:=by
  have:((i:Int)*C)=((i*C:Nat):Int):=Θ
  rw[this];exact Kh _ I
 have c:((i:Int)*C+j)=((idx:Nat):Int):=by rw[hidx];simp
 have p:IntKind.i64.wrap ((i:Int)*C+j)=(idx:Int):=by rw[c];exact Kh _ I
 clear c hidx;go_enter func160,ntmps160;go_wp2;go_ret;exact ⟨rfl,f⟩
theorem Zjk:inB x lo hi=true↔lo<=x/\x<=hi:=by unfold inB;simp
theorem Zoy (h: ¬ (lo<=x/\x<=hi)):inB x lo hi=false:=by
 cases e:inB x lo hi with
 |false=>rfl
 |true=>exact absurd (Zjk.1 e) h
theorem ZL (h:VM w S v m) (hb:bdM m<=2097152):
  Calls JG 84 #[v] w fun e w'=>e= .returned (.bool (Zd m))/\Grow w w':=by
 obtain ⟨a,n,c,rfl,h,t,C⟩:=h;have G:=h.len;unfold bdM at hb;obtain ⟨r,k,d⟩:=m;simp only at *;unfold I64 at t C;have hG:Grow w (w.alloc (.cells #[Yv Yi r,Yv Yi k, .slice a n c] 37)):=(JH w).alloc _ _;by_cases j:0<=r/\r<=24
 ·have I1:=hid (Zjk.2 j);by_cases l:0<=k/\k<=24
  ·have I2:=hid (Zjk.2 l);obtain ⟨R,rfl⟩:=LA j.1;obtain ⟨K,rfl⟩:=LA l.1;have D:R*K<=24*24:=JL I I;have hmul:((R:Int)*(K:Int))=((R*K:Nat):Int):=Θ;have y:IntKind.i64.wrap ((R:Int)*K)=((R*K:Nat):Int):=(by rw[hmul];exact Kh _ I);obtain ⟨p,z⟩:=eX (R*K);rw[←z] at y;by_cases o:n=p
   ·have J:((n:Int)==(p:Int))=true:=(by simp[o]);have L:((n:Int)!=(p:Int))=false:=(by simp[o]);have A:=hid (show ZbW ⟨(R:Int),(K:Int),d⟩=true by unfold ZbW;simp only[decide_eq_true_eq];refine ⟨j.1,j.2,l.1,l.2, ?_⟩;rw[hmul];omega);clear hmul z o D;have M:=JP w #[Yv Yi (R:Int),Yv Yi (K:Int), .slice a n c] 37;go_enter OQ,OT;go_wp2_with fail;refine (ZaU _ _ _ _).mono ?_;rintro e w' ⟨rfl,rfl⟩;rw[I1.out];go_wp2_with fail;refine (ZaU _ _ _ _).mono ?_;rintro e w' ⟨rfl,rfl⟩;rw[I2.out];go_wp2;go_loopw [3] (fun i wr=>(w.alloc (.cells #[Yv Yi (R:Int),Yv Yi (K:Int), .slice a n c] 37))=wr/\ ∃ k:Nat,k<=n/\i=Yv Yi k/\Zez (d.take k)=true) (fun i _=>n-(intOf i).toNat);case atStart=>exact ⟨by trivial,0,JI _,rfl,rfl⟩
    case round=>
     obtain ⟨rfl,i,O,rfl,g⟩:=hrel;have f:=hid g;clear g;by_cases B:i<n
     ·obtain ⟨b,N,x,rfl,E,t,_,hb,C⟩:=(h.grow hG).at B;have F:=hid E;clear E;unfold I64 at t;cases s:Zi x with
      |true=>
       have q:=hid s;clear s;go_wp2_with fail;refine (Zax _ _).mono ?_;rintro e w' ⟨rfl,rfl⟩;rw[q.out];go_wp2;go_roundw;case rel=>exact ⟨by trivial,i+1,I,Δ,by rw[ZgN F.out,f.out,q.out];rfl⟩
       case measure=>exact FN
      |false=>have q:=hid s;clear s;go_wp2_with fail;refine (Zax _ _).mono ?_;rintro e w' ⟨rfl,rfl⟩;rw[q.out];go_wp2;go_ret;exact ⟨by unfold Zd;rw[Zoj F.out q.out];simp,hG⟩
     ·have:i=n:=I;subst this;rw[Z5 G] at f;go_wp2;go_ret;exact ⟨by unfold Zd;rw[f.out,A.out];rfl,hG⟩
   ·have J:((n:Int)==(p:Int))=false:=Ψ;have L:((n:Int)!=(p:Int))=true:=Ψ;have H:=hid (show Zd ⟨(R:Int),(K:Int),d⟩=false by unfold Zd ZbW;rw[decide_eq_false (fun hh=>o EG)];rfl);clear hmul z o D;exact GX
  ·have I2:=hid (Zoy l);have H:=hid (show Zd ⟨r,k,d⟩=false by unfold Zd ZbW;rw[decide_eq_false (fun hh=>l ⟨hh.2.2.1,hh.2.2.2.1⟩)];rfl);exact GX
 ·have I1:=hid (Zoy j);have H:=hid (show Zd ⟨r,k,d⟩=false by unfold Zd ZbW;rw[decide_eq_false (fun hh=>j ⟨hh.1,hh.2.1⟩)];rfl);go_enter OQ,OT;go_wp2_with fail;refine (ZaU _ _ _ _).mono ?_;rintro e w' ⟨rfl,rfl⟩;rw[I1.out];go_wp2;go_ret;exact ⟨AZ,hG⟩
def okM (m:Mat):Mat:=if Zd m=true then m else {rows:=0,cols:=0,cells:=[]}
theorem Zl (h:Zd m=true): ∃ R C:Nat,m.rows=R/\m.cols=C/\R<=24/\C<=24/\m.cells.length=R*C/\ ∀ x∈m.cells, -400000000<=x/\x<=400000000:=by
 unfold Zd ZbW at h;simp only[Bool.and_eq_true,decide_eq_true_eq] at h;obtain ⟨⟨e,i,f,j,a⟩,b⟩:=h;obtain ⟨R,c⟩:=LA e;obtain ⟨C,d⟩:=LA f;refine ⟨R,C,c,d,I,I, ?_,fun x g=> ?_⟩
 ·rw[c,d] at a;exact_mod_cast a
 ·unfold Zez at b;exact ZbI (Kn.1 b x g)
theorem ZvU:bdM (okM m)<=576:=by
 unfold okM;split
 ·rename_i h;obtain ⟨R,C,_,_,a,b,c,_⟩:=Zl h;have:=JL a b;unfold bdM;omega
 ·simp[bdM]
theorem Zmn (h:OM w F v m) (hb:bdM m<=2097152):
  Calls JG 182 #[v] w fun e w'=> ∃ u,e= .returned (.tuple #[u, .bool (Zd m)])/\OM w' F u (okM m)/\Grow w w':=by
 obtain ⟨a,n,c,rfl,h,hx,hF,hr,hk⟩:=h;have hG2:Grow w ((w.alloc (.cells #[Yv Yi m.rows,Yv Yi m.cols, .slice a n c] 37)).alloc (.cells #[Yv Yi 0,Yv Yi 0, .slice none 0 0] 37)):=((JH w).alloc _ _).alloc _ _;have hb1:=(JP w #[Yv Yi m.rows,Yv Yi m.cols, .slice a n c] 37).alloc (.cells #[Yv Yi 0,Yv Yi 0, .slice none 0 0] 37);have hb2:=Kk (w.alloc (.cells #[Yv Yi m.rows,Yv Yi m.cols, .slice a n c] 37)) #[Yv Yi 0,Yv Yi 0, .slice none 0 0] 37 (g:=w.heap.size+1) Θ;have hO:OM w F (.agg #[Yv Yi m.rows,Yv Yi m.cols, .slice a n c]) m:=⟨a,n,c,rfl,h,hx,hF,hr,hk⟩;obtain ⟨⟨a0,a1,a2⟩, -⟩:=hb1.three;cases b:Zd m with
 |true=>
  have HM:=hid b;clear b;go_enter OU,OV;go_wp2_with fail;refine (ZG ((hO.grow hG2).rd (S:=fun _=>True) fun _ _=>trivial) hb).mono ?_;exact FZ
 |false=>have HM:=hid b;clear b;go_enter OU,OV;go_wp2_with fail;refine (ZG ((hO.grow hG2).rd (S:=fun _=>True) fun _ _=>trivial) hb).mono ?_;exact Gd
theorem Zkc (h:OM w F v m) (hb:bdM m<=2097152):
  Calls JG 139 #[v] w fun e w'=> ∃ u,e= .returned (.tuple #[u, .bool (Zd m)])/\OM w' F u (okM m)/\Grow w w':=by
 obtain ⟨a,n,c,rfl,h,hx,hF,hr,hk⟩:=h;have hG2:Grow w ((w.alloc (.cells #[Yv Yi m.rows,Yv Yi m.cols, .slice a n c] 37)).alloc (.cells #[Yv Yi 0,Yv Yi 0, .slice none 0 0] 37)):=((JH w).alloc _ _).alloc _ _;have hb1:=(JP w #[Yv Yi m.rows,Yv Yi m.cols, .slice a n c] 37).alloc (.cells #[Yv Yi 0,Yv Yi 0, .slice none 0 0] 37);have hb2:=Kk (w.alloc (.cells #[Yv Yi m.rows,Yv Yi m.cols, .slice a n c] 37)) #[Yv Yi 0,Yv Yi 0, .slice none 0 0] 37 (g:=w.heap.size+1) Θ;have hO:OM w F (.agg #[Yv Yi m.rows,Yv Yi m.cols, .slice a n c]) m:=⟨a,n,c,rfl,h,hx,hF,hr,hk⟩;obtain ⟨⟨a0,a1,a2⟩, -⟩:=hb1.three;cases b:Zd m with
 |true=>
  have HM:=hid b;clear b;go_enter NI,OW;go_wp2_with fail;refine (ZL ((hO.grow hG2).rd (S:=fun _=>True) fun _ _=>trivial) hb).mono ?_;exact FZ
 |false=>have HM:=hid b;clear b;go_enter NI,OW;go_wp2_with fail;refine (ZL ((hO.grow hG2).rd (S:=fun _=>True) fun _ _=>trivial) hb).mono ?_;exact Gd
def RdCells (w:World) (S:Nat->Prop) (vs:List Value) (xss:List (List Int)):Prop:=
 ∀ (i:Nat) (xs:List Int),xss[i]? =some xs-> ∃ b c,vs[i]? =some (Value.slice b xs.length c)/\RdI w S b xs.length c xs
theorem RdCells.keep (h:RdCells w S vs xss) (hk:Keep T w w') (hST: ∀ b,b<w.heap.size->S b->T b):RdCells w' S vs xss:=fun i a d=>by
 obtain ⟨b,c,e,f⟩:=h i a d;exact ⟨b,c,e,f.keep hk hST⟩
theorem RdCells.grow (h:RdCells w S vs xss) (hk:Grow w w'):RdCells w' S vs xss:=h.keep hk fun _ _ _=>trivial
theorem RdCells.weak (h:RdCells w S vs xss) (hST: ∀ b,b<w.heap.size->S b->T b):RdCells w T vs xss:=fun i a d=>by
 obtain ⟨b,c,e,f⟩:=h i a d;exact ⟨b,c,e,f.weak hST⟩
theorem RdCells.nilw:RdCells w S [] []:=fun i a h=>ν
theorem RdCells.append {us:List Value} {yss:List (List Int)} (h:RdCells w S vs xss) (h':RdCells w S us yss) (hl:vs.length=xss.length):RdCells w S (vs++us) (xss++yss):=fun i f a=>by
 by_cases d:i<xss.length
 ·rw[List.getElem?_append_left d] at a;obtain ⟨b,c,h1,e⟩:=h i f a;exact ⟨b,c,Cv,e⟩
 ·rw[KS I] at a;obtain ⟨b,c,h1,e⟩:=h' _ f a;exact ⟨b,c,by rw[KS I,hl];exact h1,e⟩
theorem RdCells.two {a1 a2:Option Addr} {n1 n2 c1 c2:Nat} {x y:List Int} (h1:RdI w S a1 n1 c1 x) (h2:RdI w S a2 n2 c2 y):RdCells w S [.slice a1 n1 c1, .slice a2 n2 c2] [x,y]:=fun i d a=>by
 have b:=h1.len;have c:=h2.len;subst b;subst c
 match i,a with
 |0,a=>simp at a;subst a;exact ⟨a1,c1,rfl,h1⟩
 |1,a=>simp at a;subst a;exact ⟨a2,c2,rfl,h2⟩
theorem Row.pre {n:Nat} (h:Row w S sz a n cap cs) (hk:k<=n):Row w S sz a k cap (cs.take (k*sz)):=by
 have f:=h.len;have g:=h.le;have i:k*sz<=n*sz:=Nat.mul_le_mul_right _ hk;refine ⟨by rw[List.length_take];omega,I,h.max,h.nil,fun hne=> ?_⟩;have d:cs≠[]:=EH
 obtain ⟨b,off,rfl,hS,hc⟩:=h.addr d;exact IX
theorem Inner.rdCells {g:Option Nat} (h:Inner w F g vs xss) (hS: ∀ b,F b->g≠some b->S b):RdCells w S vs xss:=fun i xs hi=>by
 exact IL
def firstIdx {α:Type} (f:α->Bool):List α->Int
 |[]=> -1
 |x::r=>if f x=true then 0 else (if firstIdx f r<0 then -1 else firstIdx f r+1)
theorem Zc5 {α:Type} (f:α->Bool) (l:List α): -1<=firstIdx f l/\firstIdx f l<l.length:=by
 induction l with
 |nil=>simp[firstIdx]
 |cons x r a=>simp only[firstIdx,List.length_cons];split<;>(try split)<;>omega
theorem Zfm {α:Type} {f:α->Bool}: ∀ {l:List α} {k:Nat} {x:α},(∀ y∈l.take k,f y=false)->l[k]? =some x->f x=true->firstIdx f l=k
 |[],k,x,_,h,_=>ν
 |y::r,0,x,_,h,hf=>by simp at h;subst h;simp[firstIdx,hf]
 |y::r,k+1,x,h,hk,hf=>by have h1:=h y Θ;simp at hk;have ih:=Zfm (f:=f) (l:=r) (k:=k) (fun z hz=>h z (by simp[hz])) hk hf;simp only[firstIdx,h1,ih];simp only[Bool.false_eq_true,if_false];rw[if_neg I];simp
theorem ZgT {α:Type} {f:α->Bool}: ∀ {l:List α},(∀ y∈l,f y=false)->firstIdx f l= -1
 |[],_=>rfl
 |x::r,h=>by simp only[firstIdx,h x Θ,ZgT (l:=r) (fun y hy=>h y CJ)];simp
theorem Zgl {α:Type} (f:α->Bool): ∀ l:List α,0<=firstIdx f l↔l.any f=true
 |[]=>by simp[firstIdx]
 |x::r=>by
  have ih:=Zgl f r;have e:firstIdx f (x::r)=if f x=true then 0 else (if firstIdx f r<0 then -1 else firstIdx f r+1):=rfl;rw[e,List.any_cons,Bool.or_eq_true];by_cases hx:f x=true
  ·rw[if_pos hx];simp[hx]
  ·rw[if_neg hx];constructor
   ·intro h;exact .inr (ih.1 (by split at h<;>omega))
   ·intro h;have:=ih.2 (h.resolve_left hx);rw[if_neg I];omega
def Zb9 (a b:List Int) (n c i j:Nat):Nat->Int
 |0=>0
 |k+1=>Zb9 a b n c i j k+a.getD (i*n+k) 0*b.getD (k*c+j) 0
def ZfJ (a b:List Int) (n c i:Nat):Nat->List Int->List Int
 |0,cells=>cells
 |j+1,cells=>(ZfJ a b n c i j cells).set (i*c+j) (Zb9 a b n c i j n)
def Zcd (a b:List Int) (n c r:Nat):Nat->List Int
 |0=>List.replicate (r*c) 0
 |i+1=>ZfJ a b n c i c (Zcd a b n c r i)
def ZbN (a b:Mat):Mat:={rows:=a.rows,cols:=b.cols,cells:=Zcd a.cells b.cells a.cols.toNat b.cols.toNat a.rows.toNat a.rows.toNat}
def Zaj (a b:Mat):Bool:=Zd a&&Zd b&&a.cols==b.rows
def ZC (a b:Mat):Bool:=Zaj a b&&Zd (ZbN a b)
def Zq (a b:Mat):Mat:=if Zaj a b=true then okM (ZbN a b) else {rows:=0,cols:=0,cells:=[]}
def NumL (l:List Int):Prop:= ∀ x∈l, -400000000<=x/\x<=400000000
theorem NumL.getD (h:NumL l) (i:Nat): -400000000<=l.getD i 0/\l.getD i 0<=400000000:=by
 by_cases hi:i<l.length
 ·have:l.getD i 0=l[i]:=CL
  rw[this];exact h _ (List.getElem_mem hi)
 ·have:l.getD i 0=0:=by simp[KJ,List.getElem?_eq_none (Nat.le_of_not_lt hi)]
  rw[this];omega
theorem Ze7 {y:Int} (hx: -400000000<=x/\x<=400000000) (hy: -400000000<=y/\y<=400000000): -160000000000000000<=x*y/\x*y<=160000000000000000:=by
 have h:(x*y).natAbs<=400000000*400000000:=by rw[Int.natAbs_mul];exact JL I I
 omega
theorem ZeO {a b:List Int} (ha:NumL a) (hb:NumL b) (n c i j:Nat): ∀ k:Nat, -160000000000000000*(k:Int)<=Zb9 a b n c i j k/\Zb9 a b n c i j k<=160000000000000000*(k:Int)
 |0=>by simp[Zb9]
 |k+1=>by
  have h1:=ZeO ha hb n c i j k;have h2:=Ze7 (ha.getD (i*n+k)) (hb.getD (k*c+j));unfold Zb9
  push_cast
  omega
theorem Zj8 (a b:List Int) (n c i:Nat): ∀ (j:Nat) (cells:List Int),(ZfJ a b n c i j cells).length=cells.length
 |0,_=>rfl
 |j+1,cells=>by unfold ZfJ;simp[Zj8 a b n c i j cells]
theorem ZiL (a b:List Int) (n c r:Nat): ∀ i,(Zcd a b n c r i).length=r*c
 |0=>by simp[Zcd]
 |i+1=>by unfold Zcd;rw[Zj8,ZiL a b n c r i]
theorem ZnO {a b:List Int} (ha:NumL a) (hb:NumL b) {n:Nat} (hn:n<=24) (c i:Nat): ∀ (j:Nat) (cells:List Int),(∀ y∈cells,I64 y)-> ∀ y∈ZfJ a b n c i j cells,I64 y
 |0,_,h=>h
 |j+1,cells,h=>by
  have ih:=ZnO ha hb hn c i j cells h;intro y hy;unfold ZfJ at hy;rcases List.mem_or_eq_of_mem_set hy with h1|h1
  ·exact ih y h1
  ·have:=ZeO ha hb n c i j n;subst h1;unfold I64;omega
theorem Zl7 {a b:List Int} (ha:NumL a) (hb:NumL b) {n:Nat} (hn:n<=24) (c r:Nat): ∀ i, ∀ y∈Zcd a b n c r i,I64 y
 |0=>Zrr
 |i+1=>by unfold Zcd;exact ZnO ha hb hn c i c _ (Zl7 ha hb hn c r i)
theorem Z6 (hi:i<=1048576) (hc:c<=1048576):IntKind.i64.wrap ((i:Int)*c)=(i:Int)*c:=by
 have h:i*c<=1048576*1048576:=JL hi hc;have:((i:Int)*c)=((i*c:Nat):Int):=Θ
 rw[this];exact Kh _ I
theorem ZaF {j x:Nat} (hi:i<=1048576) (hc:c<=1048576) (hj:j<=1048576) (hx:x=i*c+j):IntKind.i64.wrap ((i:Int)*c+j)=(x:Int):=by
 have h:i*c<=1048576*1048576:=JL hi hc;have:((i:Int)*c+j)=((x:Nat):Int):=by rw[hx];simp
 rw[this];exact Kh _ I
theorem getD_at (h:l[k]? =some x):l.getD k 0=x:=by simp[KJ,h]
theorem Zve (aa ab:Option Addr) (na ca nb cb R N C:Nat) (xs ys:List Int) (w:World) (h:RdI w S aa na ca xs) (h':RdI w T ab nb cb ys) (hR:R<=24) (hN:N<=24) (hC:C<=24) (hx:xs.length=R*N) (hy:ys.length=N*C) (nx:NumL xs) (ny:NumL ys):
  Calls JG 140 #[.agg #[Yv Yi (R:Int),Yv Yi (N:Int), .slice aa na ca], .agg #[Yv Yi (N:Int),Yv Yi (C:Int), .slice ab nb cb]] w fun e w'=>
   ∃ am,e= .returned (.agg #[Yv Yi (R:Int),Yv Yi (C:Int), .slice am (R*C) (R*C)])/\Own w' 3 1 am (R*C) (R*C) (ints (Zcd xs ys N C R R))/\(∀ g,blk am=some g->w.heap.size<=g)/\Grow w w':=by
 have hl:=h.len;have V:=h'.len;obtain ⟨O,hw3,z, -, -, -, -⟩:=al3 w #[Yv Yi (R:Int),Yv Yi (N:Int), .slice aa na ca] 37 #[Yv Yi (N:Int),Yv Yi (C:Int), .slice ab nb cb] 37 #[Yv Yi 0,Yv Yi 0, .slice none 0 0] 37;have bh:O.heap.size=w.heap.size+3:=Db
 have bA:Blk O w.heap.size #[Yv Yi (R:Int),Yv Yi (N:Int), .slice aa na ca] 37:=Bp
 have bB:Blk O (w.heap.size+1) #[Yv Yi (N:Int),Yv Yi (C:Int), .slice ab nb cb] 37:=Bi
 have bZ:Blk O (w.heap.size+2) #[Yv Yi 0,Yv Yi 0, .slice none 0 0] 37:=Ba
 obtain ⟨⟨W,X,Y⟩, -⟩:=bA.three;obtain ⟨⟨Z,b1,b2⟩, -⟩:=bB.three;rw[hw3] at W X Y Z b1 b2;have ad:=hid hw3;clear hw3;go_enter func140,ntmps140;go_wp2_with fail;rw[←ad.out];clear W X Y Z b1 b2;refine (Zg5 R C _ I I).mono ?_;rintro e s ⟨am,rfl,hO,f,m⟩;have bi:=m.size;have A:RdI s (fun q=>blk am≠some q) aa na ca xs:=((h.grow z).weak (T:=fun b=>b<O.heap.size) (fun _ hb _=>hb)).grow m |>.weak fun b _ hb e=>by have:=f b e;omega
 have B:RdI s (fun q=>blk am≠some q) ab nb cb ys:=((h'.grow z).weak (T:=fun b=>b<O.heap.size) (fun _ hb _=>hb)).grow m |>.weak fun b _ hb e=>by have:=f b e;omega
 have nA:blk am≠some w.heap.size:=fun e=>by have:=f _ e;omega
 have nB:blk am≠some (w.heap.size+1):=fun e=>by have:=f _ e;omega
 have nZ:blk am≠some (w.heap.size+2):=fun e=>by have:=f _ e;omega
 have nM:blk am≠some s.heap.size:=fun e=>Dg
 replace bA:=bA.grow m;replace bB:=bB.grow m;replace bZ:=bZ.grow m;have bj:R*C<=24*24:=JL hR hC;have ae:=Kk s #[Yv Yi (R:Int),Yv Yi (C:Int), .slice am (R*C) (R*C)] 37 rfl;have D:Grow s (s.alloc (.cells #[Yv Yi (R:Int),Yv Yi (C:Int), .slice am (R*C) (R*C)] 37)):=(JH _).alloc _ _;have Hx:=hid hx;have Hy:=hid hy;have Hl:=hid hl;have af:=hid V;clear hx hy hl V ad;go_wp2;go_loopw [6] (fun q wr=>Keep (fun q=>blk am≠some q) s wr/\Blk wr s.heap.size #[Yv Yi (R:Int),Yv Yi (C:Int), .slice am (R*C) (R*C)] 37/\ ∃ i:Nat,i<=R/\q=Yv Yi i/\Own wr 3 1 am (R*C) (R*C) (ints (Zcd xs ys N C R i))) (fun q _=>R-(intOf q).toNat);case atStart=>exact ⟨D.any,ae,0,JI _,rfl,hO.grow D⟩
 case round=>
  clear ae hO D;obtain ⟨hK,bM,i,hi,rfl,hO⟩:=hrel;have ag:=bA.keep hK nA;obtain ⟨⟨W,X,Y⟩, -⟩:=ag.three;by_cases ah:i<R
  ·have E:=bB.keep hK nB;obtain ⟨⟨Z,b1,b2⟩, -⟩:=E.three;obtain ⟨wo,rfl⟩: ∃ wo:World,wo=wr:=⟨_,rfl⟩;go_wp2;go_loopw [7] (fun q wr=>Keep (fun q=>blk am≠some q) wo wr/\ ∃ j:Nat,j<=C/\q=Yv Yi j/\Own wr 3 1 am (R*C) (R*C) (ints (ZfJ xs ys N C i j (Zcd xs ys N C R i)))) (fun q _=>C-(intOf q).toNat);case atStart=>exact ⟨Keep.refl _ _,0,JI _,rfl,hO⟩
   case round=>
    clear hO W X Y Z b1 b2;obtain ⟨l,j,hj,rfl,hO⟩:=hrel;obtain ⟨⟨Z,b1,b2⟩, -⟩:=(E.keep l nB).three;obtain ⟨⟨W,X,Y⟩, -⟩:=(ag.keep l nA).three;by_cases ai:j<C
    ·skip
     obtain ⟨v,rfl⟩: ∃ v:World,v=wr:=⟨_,rfl⟩;go_wp2;go_loopw [8,9] (fun sv q wr=>(∃ d,wr=v.drewN d)/\ ∃ k:Nat,k<=N/\q=Yv Yi k/\sv=Yv Yi (Zb9 xs ys N C i j k)) (fun _ q _=>N-(intOf q).toNat);case atStart=>exact ⟨⟨0,rfl⟩,0,JI _,rfl,rfl⟩
     case round=>
      obtain ⟨⟨d,rfl⟩,k,hk,rfl,rfl⟩:=hrel;by_cases aj:k<N
      ·have ak:Keep (fun q=>blk am≠some q) s v:=hK.trans l;have F:=Zhi aj ai;have G:=Zhi ah aj;obtain ⟨o,a⟩:=eX (i*N+k);obtain ⟨iy,r⟩:=eX (k*C+j);obtain ⟨ba,oa,x,rfl,H,bk,_,_,bl⟩:=(A.keep ak fun _ _ h=>h).at (k:=o) (by rw[←Hl.out,Hx.out,a];exact G);obtain ⟨bb,ob,y,rfl,J,bm,_,_,bn⟩:=(B.keep ak fun _ _ h=>h).at (k:=iy) (by rw[←af.out,Hy.out,r];exact F);have bf:o<na:=(by rw[←Hl.out,Hx.out,a];exact G);have bg:iy<nb:=(by rw[←af.out,Hy.out,r];exact F);have bo:=A.row.le;have bp:=B.row.le;have ar:=A.row.max;have av:=B.row.max;unfold maxLen at ar av;have u1:=Z6 (i:=i) (c:=N) I I;have u2:=ZaF (i:=i) (c:=N) (j:=k) I I I a;have u3:=Z6 (i:=k) (c:=C) I I;have u4:=ZaF (i:=k) (c:=C) (j:=j) I I I r;have L:=nx.getD o;have M:=ny.getD iy;rw[getD_at H] at L;rw[getD_at J] at M;have aw:=Ze7 L M;have hd:=ZeO nx ny N C i j k;have al:=hid (show Zb9 xs ys N C i j (k+1)=Zb9 xs ys N C i j k+x*y by conv=>{lhs;unfold Zb9};rw[←a, ←r,getD_at H,getD_at J]);clear a r F G H J L M;obtain ⟨p,P⟩:=eX (x*y);rw[←P] at aw al;have u5:IntKind.i64.wrap (x*y)=p:=(by rw[←P];exact Kh _ I);clear P;generalize Zb9 xs ys N C i j k=dv at *;have u6:IntKind.i64.wrap (dv+p)=dv+p:=Kh _ I;go_wp2
       go_quiet (fail)
       go_wp2;go_roundw;case rel=>exact ⟨⟨_,rfl⟩,k+1,I,Δ,by rw[al.out]⟩
       case measure=>exact FN
      ·have ax:k=N:=I;subst ax;have hd:=ZeO nx ny k C i j k;have ay:I64 (Zb9 xs ys k C i j k):=ι;obtain ⟨o,a⟩:=eX (i*C+j);have az:o<R*C:=(by rw[a];exact Zhi ah ai);have u3:=Z6 (i:=i) (c:=C) I I;have u4:=ZaF (i:=i) (c:=C) (j:=j) I I I a;have a3:=hid (show (ZfJ xs ys k C i j (Zcd xs ys k C R i)).length=R*C by rw[Zj8,ZiL]);have t:Grow v (v.drewN d):=(JH v).drewN d;have n:=hO.grow t;have a4:=(bM.keep l nM).grow t;obtain ⟨⟨m0,m1,m2⟩, -⟩:=a4.three;obtain ⟨⟨x0,x1,x2⟩, -⟩:=((E.keep l nB).grow t).three;have a5:=hid (show ZfJ xs ys k C i (j+1) (Zcd xs ys k C R i)=(ZfJ xs ys k C i j (Zcd xs ys k C R i)).set o (Zb9 xs ys k C i j k) by rw[a];rfl);clear a hO;cases am with
       |none=>have:=n.nil rfl;have:=n.le;omega
       |some p=>
        have P:=(n.block p rfl).1;obtain ⟨pb,po,ps⟩:=p;simp only[Addr.mk.injEq,true_and] at P;obtain ⟨rfl,rfl⟩:=P;obtain ⟨cv,an⟩: ∃ cv,(ints (ZfJ xs ys k C i j (Zcd xs ys k C R i)))[o]? =some cv:=⟨_,JR (by rw[List.length_map,a3.out];exact az)⟩;have a6:=n.cell an;have a7:=n.free o;simp only at a6 a7;clear an;have a8:=n.set o (Yv Yi (Zb9 xs ys k C i j k));have a9:Keep (fun q=>blk (some (⟨pb,0,none⟩:Addr))≠some q) wo ((v.drewN d).setCell ⟨pb,o,none⟩ (Yv Yi (Zb9 xs ys k C i j k))):=(l.trans t.any).setCell (p:=⟨pb,o,none⟩) (fun _ e=>e rfl) _;clear n;generalize ao:Zb9 xs ys k C i j k=dv at *;have bq:=hid ao;clear ao;unfold I64 at ay;go_wp2;go_roundw;case rel=>exact ⟨a9,j+1,I,Δ,by rw[a5.out,ints_set];exact a8⟩
        case measure=>exact FN
    ·have bc:j=C:=I;subst bc;go_wp2;go_roundw;case rel=>exact ⟨hK.trans l,bM.keep l nM,i+1,I,Δ,hO⟩
     case measure=>exact FN
  ·have bd:i=R:=I;subst bd;have ap:=bZ.keep hK nZ;obtain ⟨⟨m0,m1,m2⟩, -⟩:=bM.three;obtain ⟨⟨z0,z1,z2⟩,g0,g1,g2⟩:=ap.three;have be:Grow w wr:=(z.trans m).keep hK fun q hq e=>(by have:=f q e;omega);have br:w.heap.size<=w.heap.size+2:=I;go_wp2;have aq:Keep (fun q=>q≠w.heap.size+2) wr (((wr.setCell ⟨w.heap.size+2,0,none⟩ (Yv Yi (i:Int))).setCell ⟨w.heap.size+2,1,none⟩ (Yv Yi (C:Int))).setCell ⟨w.heap.size+2,2,none⟩ (.slice am (i*C) (i*C))):=
    kS
   refine Zx Zc rfl rfl rfl (((ap.set 0 _).set 1 _).set 2 _) ⟨am,rfl,hO.keep aq (fun g hg _ e=>by have:=f g hg;omega),(fun g hg=>by have:=f g hg;omega), ?_⟩;exact be.keep aq (fun q hq e=>I)
theorem ZfV (h:Zaj A B=true): ∃ R N C:Nat,A.rows=R/\A.cols=N/\B.rows=N/\B.cols=C/\R<=24/\N<=24/\C<=24/\A.cells.length=R*N/\B.cells.length=N*C/\NumL A.cells/\NumL B.cells:=by
 unfold Zaj at h;simp only[Bool.and_eq_true,beq_iff_eq] at h;obtain ⟨⟨b,c⟩,p⟩:=h;obtain ⟨R,N,d,e,f,g,i,j⟩:=Zl b;obtain ⟨a,C,k,l,q,m,n,o⟩:=Zl c;have:a=N:=I
 subst this;exact ⟨R,a,C,d,e,k,l,f,g,m,i,n,j,o⟩
theorem OM.zero:OM w F (.agg #[Yv Yi 0,Yv Yi 0, .slice none 0 0]) {rows:=0,cols:=0,cells:=[]}:=
 ⟨none,0,0,rfl,Own.nilw,(fun x hx=>AO),(fun g hg=>Ci),ES,ES⟩
theorem Zf1 {R N C:Nat} (hr:A.rows=R) (hn:A.cols=N) (hc:B.cols=C):(ZbN A B).cells=Zcd A.cells B.cells N C R R:=by
 unfold ZbN;simp only[hr,hn,hc,Int.toNat_natCast]
theorem ZnL (hF:Zaj A B=true): ∀ x∈(ZbN A B).cells,I64 x:=by
 obtain ⟨R,N,C,a,b,g,c,h,d,i,_,_,e,f⟩:=ZfV hF;rw[Zf1 a b c];exact Zl7 e f d C R R
theorem Zjd (hF:Zaj A B=true):bdM (ZbN A B)<=576:=by
 obtain ⟨R,N,C,a,b,f,c,d,g,e,_,_,h,i⟩:=ZfV hF;unfold bdM;rw[Zf1 a b c,ZiL];exact JL d e
theorem ZpV (h:VM w S u A) (h':VM w T v B) (hF:Zaj A B=true):
  Calls JG 140 #[u,v] w fun e w'=> ∃ r,e= .returned r/\OM w' (New w w') r (ZbN A B)/\Grow w w':=by
 obtain ⟨l,m,n,rfl,o,a,p⟩:=h;obtain ⟨q,s,t,rfl,x,y,b⟩:=h';have z:=ZnL hF;obtain ⟨R,N,C,c,i,D,d,E,F,G,H,J,L,M⟩:=ZfV hF;rw[c,i,D,d];refine (Zve l q m n s t R N C _ _ w o x E F G H J L M).mono ?_;rintro e w' ⟨O,rfl,j,f,P⟩;refine ⟨_,rfl,⟨O,R*C,R*C, ?_, ?_,z,fun g k=>⟨f g k,j.lt k⟩,a,b⟩,P⟩
 ·simp only[ZbN,c,d]
 ·rw[Zf1 c i d];exact j
theorem Zmi (h:VM w S u A) (h':VM w T v B) (hb:bdM A<=2097152) (hb':bdM B<=2097152):
  Calls JG 87 #[u,v] w fun e w'=> ∃ r,e= .returned (.tuple #[r, .bool (ZC A B)])/\OM w' (New w w') r (Zq A B)/\Grow w w':=by
 obtain ⟨l,m,n,rfl,W,F,G⟩:=h;obtain ⟨o,p,s,rfl,X,H,J⟩:=h';have k:VM w S (.agg #[Yv Yi A.rows,Yv Yi A.cols, .slice l m n]) A:=⟨l,m,n,rfl,W,F,G⟩;have t:VM w T (.agg #[Yv Yi B.rows,Yv Yi B.cols, .slice o p s]) B:=⟨o,p,s,rfl,X,H,J⟩;obtain ⟨x,hw3,hG3, -, -, -, -⟩:=al3 w #[Yv Yi A.rows,Yv Yi A.cols, .slice l m n] 37 #[Yv Yi B.rows,Yv Yi B.cols, .slice o p s] 37 #[Yv Yi 0,Yv Yi 0, .slice none 0 0] 37;have Y:x.heap.size=w.heap.size+3:=Db
 have bA:Blk x w.heap.size #[Yv Yi A.rows,Yv Yi A.cols, .slice l m n] 37:=Bp
 have bB:Blk x (w.heap.size+1) #[Yv Yi B.rows,Yv Yi B.cols, .slice o p s] 37:=Bi
 have bZ:Blk x (w.heap.size+2) #[Yv Yi 0,Yv Yi 0, .slice none 0 0] 37:=Ba
 obtain ⟨⟨a0,a1,a2⟩, -⟩:=bA.three;rw[hw3] at a0 a1 a2;have f:=hid hw3;clear hw3;cases b:Zd A with
 |false=>
  have hF:Zaj A B=false:=by unfold Zaj;rw[b];rfl
  have c:ZC A B=false:=Be
  have a:Zq A B={rows:=0,cols:=0,cells:=[]}:=Cf
  rw[c,a];have HMA:=hid b;clear b hF c a;go_enter MW,MX;go_wp2_with fail;rw[←f.out];refine (ZL (k.grow hG3) hb).mono ?_;rintro e L ⟨rfl,hG4⟩;rw[HMA.out];have hG:=hG3.trans hG4;replace bZ:=bZ.grow hG4;obtain ⟨⟨z0,z1,z2⟩,g0,g1,g2⟩:=bZ.three;go_wp2;have hle:w.heap.size<=w.heap.size+2:=I
  exact Gg
 |true=>
  have HMA:=hid b;clear b;cases d:Zd B with
  |false=>have hF:Zaj A B=false:=(by unfold Zaj;rw[HMA.out,d];rfl);have c:ZC A B=false:=Be;have a:Zq A B={rows:=0,cols:=0,cells:=[]}:=Cf;rw[c,a];have HMB:=hid d;clear d hF c a;go_enter MW,MX;go_wp2_with fail;rw[←f.out];refine (ZL (k.grow hG3) hb).mono ?_;rintro e L ⟨rfl,hG4⟩;rw[HMA.out];clear a0 a1 a2;obtain ⟨⟨b0,b1,b2⟩, -⟩:=(bB.grow hG4).three;go_wp2_with fail;refine (ZL ((t.grow hG3).grow hG4) hb').mono ?_;exact FP
  |true=>
   have HMB:=hid d;clear d;by_cases hcr:A.cols=B.rows
   ·have hF:Zaj A B=true:=BO;have c:ZC A B=Zd (ZbN A B):=Be;have a:Zq A B=okM (ZbN A B):=(by unfold Zq;rw[if_pos hF]);rw[c,a];have Z:(A.cols==B.rows)=true:=Dz;have q2:(A.cols !=B.rows)=false:=Dz;have P:=hid hF;clear hF c a hcr;go_enter MW,MX;go_wp2_with fail;rw[←f.out];refine (ZL (k.grow hG3) hb).mono ?_;rintro e L ⟨rfl,hG4⟩;rw[HMA.out];clear a0 a1 a2;obtain ⟨⟨b0,b1,b2⟩, -⟩:=(bB.grow hG4).three;go_wp2_with fail;refine (ZL ((t.grow hG3).grow hG4) hb').mono ?_;rintro e w5 ⟨rfl,hG5⟩;rw[HMB.out];clear b0 b1 b2;have hG:=(hG3.trans hG4).trans hG5;replace bA:=(bA.grow hG4).grow hG5;replace bB:=(bB.grow hG4).grow hG5;replace bZ:=(bZ.grow hG4).grow hG5;obtain ⟨⟨a0,a1,a2⟩, -⟩:=bA.three;obtain ⟨⟨b0,b1,b2⟩, -⟩:=bB.three;obtain ⟨⟨z0,z1,z2⟩,g0,g1,g2⟩:=bZ.three;go_wp2_with fail;refine (ZpV ((k.grow hG)) ((t.grow hG)) P.out).mono ?_;rintro e w6 ⟨m6,rfl,M,i⟩;go_wp2_with fail;refine (Zkc M (by have:=Zjd P.out;omega)).mono ?_;rintro e y ⟨m7,rfl,N,j⟩;obtain ⟨z,C,D,rfl,R,x7,V,i7,j7⟩:=N;have ad:=hG.size;have ae:=i.size;have af:=j.size;have ag:=bZ.lt;replace bZ:=((bZ.grow i).grow j).alloc (.cells #[Yv Yi (okM (ZbN A B)).rows,Yv Yi (okM (ZbN A B)).cols, .slice z C D] 37);clear a0 a1 a2 b0 b1 b2 z0 z1 z2 g0 g1 g2;obtain ⟨⟨z0,z1,z2⟩,g0,g1,g2⟩:=bZ.three;go_wp2;have hle:w.heap.size<=w.heap.size+2:=I;have O:Grow w (y.alloc (.cells #[Yv Yi (okM (ZbN A B)).rows,Yv Yi (okM (ZbN A B)).cols, .slice z C D] 37)):=((hG.trans i).trans j).alloc _ _;have hK:Keep (fun q=>q≠w.heap.size+2) y (y.alloc (.cells #[Yv Yi (okM (ZbN A B)).rows,Yv Yi (okM (ZbN A B)).cols, .slice z C D] 37)):=((JH y).alloc _ _).any;refine Zb Zc rfl rfl rfl (((bZ.set 0 _).set 1 _).set 2 _) ⟨_,rfl,⟨z,C,D,rfl, ?_,x7, ?_,i7,j7⟩,((O.setCell hle _).setCell hle _).setCell hle _⟩
    ·exact R.keep (((hK.setCell (fun _ e=>e rfl) _).setCell (fun _ e=>e rfl) _).setCell (fun _ e=>e rfl) _) (fun g E _ e=>by have:=(V g E).1;omega)
    ·intro g E;have h1:=R.lt E;have h2:=(V g E).1;exact ⟨I,Ψ⟩
   ·have hF:Zaj A B=false:=BO;have c:ZC A B=false:=Be;have a:Zq A B={rows:=0,cols:=0,cells:=[]}:=Cf;rw[c,a];have Z:(A.cols==B.rows)=false:=Dz;have q2:(A.cols !=B.rows)=true:=Dz;clear hF c a hcr;go_enter MW,MX;go_wp2_with fail;rw[←f.out];refine (ZL (k.grow hG3) hb).mono ?_;rintro e L ⟨rfl,hG4⟩;rw[HMA.out];clear a0 a1 a2;obtain ⟨⟨b0,b1,b2⟩, -⟩:=(bB.grow hG4).three;go_wp2_with fail;refine (ZL ((t.grow hG3).grow hG4) hb').mono ?_;exact FP
theorem Zdu (h:VM w S u A) (h':VM w T v B) (hb:bdM A<=2097152) (hb':bdM B<=2097152):
  Calls JG 120 #[u,v] w fun e w'=> ∃ r,e= .returned (.tuple #[r, .bool (ZC A B)])/\OM w' (New w w') r (Zq A B)/\Grow w w':=by
 obtain ⟨Y,L,Z,rfl,hA,ad,a5⟩:=h;obtain ⟨ab,M,cb,rfl,hB,a6,ae⟩:=h';have vA:VM w S (.agg #[Yv Yi A.rows,Yv Yi A.cols, .slice Y L Z]) A:=⟨Y,L,Z,rfl,hA,ad,a5⟩;have vB:VM w T (.agg #[Yv Yi B.rows,Yv Yi B.cols, .slice ab M cb]) B:=⟨ab,M,cb,rfl,hB,a6,ae⟩;obtain ⟨w3,hw3,hG3, -, -, -, -⟩:=al3 w #[Yv Yi A.rows,Yv Yi A.cols, .slice Y L Z] 37 #[Yv Yi B.rows,Yv Yi B.cols, .slice ab M cb] 37 #[Yv Yi 0,Yv Yi 0, .slice none 0 0] 37;have bp:w3.heap.size=w.heap.size+3:=Db
 have bA:Blk w3 w.heap.size #[Yv Yi A.rows,Yv Yi A.cols, .slice Y L Z] 37:=Bp
 have bB:Blk w3 (w.heap.size+1) #[Yv Yi B.rows,Yv Yi B.cols, .slice ab M cb] 37:=Bi
 have bZ:Blk w3 (w.heap.size+2) #[Yv Yi 0,Yv Yi 0, .slice none 0 0] 37:=Ba
 obtain ⟨⟨a0,a1,a2⟩, -⟩:=bA.three;rw[hw3] at a0 a1 a2;have o:=hid hw3;clear hw3;cases s:Zd A with
 |false=>
  have hF:Zaj A B=false:=by unfold Zaj;rw[s];rfl
  have t:ZC A B=false:=Be
  have a:Zq A B={rows:=0,cols:=0,cells:=[]}:=Cf
  rw[t,a];have HMA:=hid s;clear s hF t a;go_enter LK,MZ;go_wp2_with fail;rw[←o.out];refine (ZG (vA.grow hG3) hb).mono ?_;rintro e w4 ⟨rfl,hG4⟩;rw[HMA.out];have hG:=hG3.trans hG4;replace bZ:=bZ.grow hG4;obtain ⟨⟨z0,z1,z2⟩,g0,g1,g2⟩:=bZ.three;go_wp2;have hle:w.heap.size<=w.heap.size+2:=I
  exact Gg
 |true=>
  have HMA:=hid s;clear s;cases z:Zd B with
  |false=>have hF:Zaj A B=false:=(by unfold Zaj;rw[HMA.out,z];rfl);have t:ZC A B=false:=Be;have a:Zq A B={rows:=0,cols:=0,cells:=[]}:=Cf;rw[t,a];have HMB:=hid z;clear z hF t a;go_enter LK,MZ;go_wp2_with fail;rw[←o.out];refine (ZG (vA.grow hG3) hb).mono ?_;rintro e w4 ⟨rfl,hG4⟩;rw[HMA.out];clear a0 a1 a2;obtain ⟨⟨b0,b1,b2⟩, -⟩:=(bB.grow hG4).three;go_wp2_with fail;refine (ZG ((vB.grow hG3).grow hG4) hb').mono ?_;exact FP
  |true=>
   have HMB:=hid z;clear z;by_cases hcr:A.cols=B.rows
   ·have hF:Zaj A B=true:=BO;have t:ZC A B=Zd (ZbN A B):=Be;have a:Zq A B=okM (ZbN A B):=(by unfold Zq;rw[if_pos hF]);rw[t,a];have q1:(A.cols==B.rows)=true:=Dz;have q2:(A.cols !=B.rows)=false:=Dz;have HF:=hid hF;clear hF t a hcr;go_enter LK,MZ;go_wp2_with fail;rw[←o.out];refine (ZG (vA.grow hG3) hb).mono ?_;rintro e w4 ⟨rfl,hG4⟩;rw[HMA.out];clear a0 a1 a2;obtain ⟨⟨b0,b1,b2⟩, -⟩:=(bB.grow hG4).three;go_wp2_with fail;refine (ZG ((vB.grow hG3).grow hG4) hb').mono ?_;rintro e w5 ⟨rfl,hG5⟩;rw[HMB.out];clear b0 b1 b2;have hG:=(hG3.trans hG4).trans hG5;replace bA:=(bA.grow hG4).grow hG5;replace bB:=(bB.grow hG4).grow hG5;replace bZ:=(bZ.grow hG4).grow hG5;obtain ⟨⟨a0,a1,a2⟩, -⟩:=bA.three;obtain ⟨⟨b0,b1,b2⟩, -⟩:=bB.three;obtain ⟨⟨z0,z1,z2⟩,g0,g1,g2⟩:=bZ.three;go_wp2_with fail;have hx:=ZnL HF.out;have bq:=Zjd HF.out;obtain ⟨R,N,C,r1,r2,r3,r4,hR,hN,hC,l1,l2,n1,n2⟩:=ZfV HF.out;have E:=hid (Zf1 r1 r2 r4);rw[r1,r2] at bA;rw[r1] at a0;rw[r2] at a1;rw[r3,r4] at bB;rw[r3] at b0;rw[r4] at b1;simp only[r1,r2,r3,r4];refine (Zc9 R C _ I I).mono ?_;rintro e F ⟨c,rfl,hO,l,m⟩;have br:=m.size;have a8:=bZ.lt;have a9:RdI F (fun q=>blk c≠some q) Y L Z A.cells:=((hA.grow hG).weak (T:=fun b=>b<w5.heap.size) (fun _ hb _=>hb)).grow m |>.weak fun b _ hb e=>(by have:=l b e;omega);have ba:RdI F (fun q=>blk c≠some q) ab M cb B.cells:=((hB.grow hG).weak (T:=fun b=>b<w5.heap.size) (fun _ hb _=>hb)).grow m |>.weak fun b _ hb e=>(by have:=l b e;omega);have nA:blk c≠some w.heap.size:=fun e=>(by have:=l _ e;omega);have nB:blk c≠some (w.heap.size+1):=fun e=>(by have:=l _ e;omega);have nZ:blk c≠some (w.heap.size+2):=fun e=>(by have:=l _ e;omega);have nM:blk c≠some F.heap.size:=fun e=>Dg;replace bA:=bA.grow m;replace bB:=bB.grow m;replace bZ:=bZ.grow m;have bs:R*C<=24*24:=JL hR hC;have af:=Kk F #[Yv Yi (R:Int),Yv Yi (C:Int), .slice c (R*C) (R*C)] 37 rfl;have O:Grow F (F.alloc (.cells #[Yv Yi (R:Int),Yv Yi (C:Int), .slice c (R*C) (R*C)] 37)):=(JH _).alloc _ _;have ag:=hA.len;have ah:=hB.len;have Hx:=hid l1;have Hy:=hid l2;have Hl:=hid ag;have bb:=hid ah;clear l1 l2 ag ah a0 a1 a2 b0 b1 b2 z0 z1 z2 g0 g1 g2 o;go_wp2;go_loopw [7] (fun q wr=>Keep (fun q=>blk c≠some q) F wr/\Blk wr F.heap.size #[Yv Yi (R:Int),Yv Yi (C:Int), .slice c (R*C) (R*C)] 37/\ ∃ i:Nat,i<=R/\q=Yv Yi i/\Own wr 3 1 c (R*C) (R*C) (ints (Zcd A.cells B.cells N C R i))) (fun q _=>R-(intOf q).toNat);case atStart=>exact ⟨O.any,af,0,JI _,rfl,hO.grow O⟩
    case round=>
     clear af hO O;obtain ⟨hK,bM,i,hi,rfl,hO⟩:=hrel;have ai:=bA.keep hK nA;obtain ⟨⟨a0,a1,a2⟩, -⟩:=ai.three;by_cases aj:i<R
     ·have ak:=bB.keep hK nB;obtain ⟨⟨b0,b1,b2⟩, -⟩:=ak.three;obtain ⟨wo,rfl⟩: ∃ wo:World,wo=wr:=⟨_,rfl⟩;go_wp2;go_loopw [8] (fun q wr=>Keep (fun q=>blk c≠some q) wo wr/\ ∃ j:Nat,j<=C/\q=Yv Yi j/\Own wr 3 1 c (R*C) (R*C) (ints (ZfJ A.cells B.cells N C i j (Zcd A.cells B.cells N C R i)))) (fun q _=>C-(intOf q).toNat);case atStart=>exact ⟨Keep.refl _ _,0,JI _,rfl,hO⟩
      case round=>
       clear hO a0 a1 a2 b0 b1 b2;obtain ⟨n,j,hj,rfl,hO⟩:=hrel;have al:=ak.keep n nB;have an:=ai.keep n nA;obtain ⟨⟨b0,b1,b2⟩, -⟩:=al.three;obtain ⟨⟨a0,a1,a2⟩, -⟩:=an.three;by_cases ao:j<C
       ·skip
        obtain ⟨wp,rfl⟩: ∃ wp:World,wp=wr:=⟨_,rfl⟩;go_wp2;go_loopw [9,10] (fun sv q wr=>Grow wp wr/\ ∃ k:Nat,k<=N/\q=Yv Yi k/\sv=Yv Yi (Zb9 A.cells B.cells N C i j k)) (fun _ q _=>N-(intOf q).toNat);case atStart=>exact ⟨JH _,0,JI _,rfl,rfl⟩
        case round=>
         clear a0 a1 a2 b0 b1 b2;obtain ⟨d,k,hk,rfl,rfl⟩:=hrel;have ap:Keep (fun q=>blk c≠some q) F wp:=hK.trans n;have aq:=an.grow d;have ar:=al.grow d;obtain ⟨⟨a0,a1,a2⟩, -⟩:=aq.three;by_cases av:k<N
         ·have aw:=Zhi av ao;have ax:=Zhi aj av;obtain ⟨x,G⟩: ∃ x,A.cells[i*N+k]? =some x:=⟨_,JR (by rw[Hx.out];exact ax)⟩;obtain ⟨y,H⟩: ∃ y,B.cells[k*C+j]? =some y:=⟨_,JR (by rw[Hy.out];exact aw)⟩;have ay:=a9.keep ap fun _ _ h=>h;have az:=ba.keep ap fun _ _ h=>h;have bt:L<=576:=(by have:=JL hR hN;have:=Hl.out;have:=Hx.out;omega);have bv:M<=576:=(by have:=JL hN hC;have:=bb.out;have:=Hy.out;omega);have P:=n1.getD (i*N+k);have V:=n2.getD (k*C+j);rw[getD_at G] at P;rw[getD_at H] at V;have bc:=Ze7 P V;have hd:=ZeO n1 n2 N C i j k;have a3:=hid (show Zb9 A.cells B.cells N C i j (k+1)=Zb9 A.cells B.cells N C i j k+x*y by conv=>{lhs;unfold Zb9};rw[getD_at G,getD_at H]);have HX:=hid G;have HY:=hid H;clear aw ax G H P V;obtain ⟨p,hp⟩:=eX (x*y);rw[←hp] at bc a3;have u5:IntKind.i64.wrap (x*y)=p:=(by rw[←hp];exact Kh _ I);clear hp;generalize Zb9 A.cells B.cells N C i j k=dv at *;have u6:IntKind.i64.wrap (dv+p)=dv+p:=Kh _ I;go_wp2;refine Zd1 (S:=Grow wr) [0,1,2,3,5,6,7] [4,8,9,10,11] ZaB Ξ (fun _ _ _ _ _ h=>h) (JH _).drew ?_;show wpQuiet _ _ _ (fun a'=>ZaQ _ _ _ _ [_,_,_,_,_] a' _) [_,_,_,_,_,_,_] _;(repeat (first |(go_big_quiet_want;(first |refine Zc4 Zc rfl rfl (fun w' hG=>aq.grow hG) ?_|refine Zc4 Zc rfl rfl (fun w' hG=>ar.grow hG) ?_);go_big_quiet_on;simp only[putP])|go_big_quiet_step (exact fun _=>rfl)));refine wpQuiet_nil ?_;show ZaQ _ _ _ _ _ _ _;refine ZX rfl (fun K hK=> ?_);go_wp2_with fail;refine (ZaA Y L Z N i k (i*N+k) (R:Int) x A.cells _ ((ay.grow d).grow (JH _).drew) rfl HX.out I I I I).mono ?_;rintro e w8 ⟨rfl,bd⟩;have D:Grow wr w8:=(JH wr).drew.trans bd;go_wp2_with fail;refine hK _ _ (D) ?_;clear hK K;refine ZX rfl (fun K hK=> ?_);go_wp2_with fail;refine (ZaA ab M cb C k j (k*C+j) (N:Int) y B.cells _ ((az.grow d).grow D) rfl HY.out I I I I).mono ?_;rintro e w9 ⟨rfl,be⟩;have f:=D.trans be;go_wp2_with fail;refine hK _ _ (f) ?_;clear hK K;refine ZX rfl (fun K hK=> ?_);go_wp2_with fail;refine hK _ _ (f) ?_;clear hK K;refine ZX rfl (fun K hK=> ?_);go_wp2_with fail;refine hK _ _ (f) ?_;clear hK K;refine ZX rfl (fun K hK=> ?_);go_wp2_with fail;refine hK _ _ (f) ?_;clear hK K;refine Zfg ?_;go_wp2;go_roundw;case rel=>exact ⟨d.trans f,k+1,I,Δ,by rw[a3.out]⟩
          case measure=>exact FN
         ·have bf:k=N:=I;subst bf;have hd:=ZeO n1 n2 k C i j k;have bg:I64 (Zb9 A.cells B.cells k C i j k):=ι;have bh:=(bM.keep n nM).grow d;obtain ⟨⟨m0,m1,m2⟩, -⟩:=bh.three;obtain ⟨⟨b0,b1,b2⟩, -⟩:=ar.three;unfold I64 at bg;go_wp2_with fail;refine (Zjp c _ _ _ i j (i*C+j) _ _ _ _ (hO.grow d) rfl (Zhi aj ao) I I I I).mono ?_;rintro e w8 ⟨rfl,bi,bj⟩;go_wp2;go_roundw;case rel=>exact ⟨(n.trans d.any).trans bj,j+1,I,Δ,bi⟩
          case measure=>exact FN
       ·have bk:j=C:=I;subst bk;go_wp2;go_roundw;case rel=>exact ⟨hK.trans n,bM.keep n nM,i+1,I,Δ,hO⟩
        case measure=>exact FN
     ·have bl:i=R:=I;subst bl;have a8:=bZ.lt;have J:=bZ.keep hK nZ;obtain ⟨⟨m0,m1,m2⟩, -⟩:=bM.three;have a4:Grow w wr:=(hG.trans m).keep hK fun q hq e=>(by have:=l q e;have:=hG.size;omega);have bw:=a4.size;have bm:OM wr (fun g=>w.heap.size+2<g/\g<wr.heap.size) (.agg #[Yv Yi (i:Int),Yv Yi (C:Int), .slice c (i*C) (i*C)]) (ZbN A B):=
       ⟨c,i*C,i*C,by simp only[ZbN,r1,r4],by rw[E.out];exact hO,hx,(fun g W=>⟨by have:=l g W;omega,hO.lt W⟩),ad,ae⟩
      go_wp2_with fail;refine (Zmn bm I).mono ?_;rintro e w7 ⟨m7,rfl,bn,X⟩;obtain ⟨a7,n7,c7,rfl,o7,x7,f7,i7,j7⟩:=bn;have bx:=X.size;replace J:=J.grow X;clear a0 a1 a2 m0 m1 m2;obtain ⟨⟨z0,z1,z2⟩,g0,g1,g2⟩:=J.three;go_wp2;have hle:w.heap.size<=w.heap.size+2:=I;have bo:Grow w w7:=a4.trans X;refine Zb Zc rfl rfl rfl (((J.set 0 _).set 1 _).set 2 _) ⟨_,rfl,⟨a7,n7,c7,rfl, ?_,x7, ?_,i7,j7⟩,((bo.setCell hle _).setCell hle _).setCell hle _⟩
      ·exact o7.keep ((((Keep.refl (fun q=>q≠w.heap.size+2) w7).setCell (fun _ e=>e rfl) _).setCell (fun _ e=>e rfl) _).setCell (fun _ e=>e rfl) _) (fun g W _ e=>by have:=(f7 g W).1;omega)
      ·intro g W;have h1:=o7.lt W;have h2:=(f7 g W).1;exact ⟨I,C8⟩
   ·have hF:Zaj A B=false:=BO;have t:ZC A B=false:=Be;have a:Zq A B={rows:=0,cols:=0,cells:=[]}:=Cf;rw[t,a];have q1:(A.cols==B.rows)=false:=Dz;have q2:(A.cols !=B.rows)=true:=Dz;clear hF t a hcr;go_enter LK,MZ;go_wp2_with fail;rw[←o.out];refine (ZG (vA.grow hG3) hb).mono ?_;rintro e w4 ⟨rfl,hG4⟩;rw[HMA.out];clear a0 a1 a2;obtain ⟨⟨b0,b1,b2⟩, -⟩:=(bB.grow hG4).three;go_wp2_with fail;refine (ZG ((vB.grow hG3).grow hG4) hb').mono ?_;exact FP
def Zfp (l:List Int):Bool:=l.all fun x=>x==0
theorem Zj5 (h:l[k]? =some x) (hx:(x==0)=false):Zfp l=false:=by
 unfold Zfp;rw[NH];exact ⟨x,JX h,EC⟩
theorem ZgH (h: ∀ x∈l,(x==0)=true):Zfp l=true:=by
 unfold Zfp;rw[Kn];exact h
def Zlv (c:List Int):Mat:={rows:=1,cols:=c.length,cells:=c}
theorem Zpi (a:Option Addr) (n cap:Nat) (xs:List Int) (w:World) (h:RdI w S a n cap xs) (hn:n<=2097152):
  Calls JG 295 #[.slice a n cap] w fun e w'=>e= .returned (.bool (Zfp xs))/\w=w':=by
 have d: ∀ (x:Int) (w:World),Calls JG 310 #[Yv Yi x] w fun e w'=>e= .returned (.bool (!(x==0)))/\w=w':=fun x w=>by
  by_cases hx:x=0
  ·subst hx;go_enter OX,OY;go_wp2;go_ret;exact ⟨Zm rfl,rfl⟩
  ·have o:(x==0)=false:=EC;have t:(x !=0)=true:=EC;clear hx;go_enter OX,OY;go_wp2;go_ret;exact ⟨Zm (by rw[o];rfl),rfl⟩
 have p:=hid h.len;have c:Calls JG 238 #[.slice a n cap, .func (.func 310) #[] #[]] w fun e w'=>(∃ r:Int,e= .returned (Yv Yi r)/\decide (0<=r)= !Zfp xs)/\w=w':=by
  go_enter func238,ntmps238;go_wp2;go_loop [8] (fun i=> ∃ k:Nat,k<=n/\i=Yv Yi k/\ ∀ x∈xs.take k,(x==0)=true) (fun i=>n-(intOf i).toNat);case atStart=>exact ⟨0,JI _,rfl,Θ⟩
  case round=>
   obtain ⟨k,v,rfl,m⟩:=hrel;have He:=hid m;clear m;by_cases j:k<n
   ·obtain ⟨b,q,x,rfl,hx,l,_,y,A⟩:=h.at j;have Hx:=hid hx;clear hx;cases g:x==0 with
    |true=>
     have H0:=hid g;clear g;go_wp2_with fail;refine (d _ _).mono ?_;rintro e w' ⟨rfl,rfl⟩;rw[H0.out];go_wp2
     go_round
     case rel=>
      exact Iw
     case measure=>exact FN
    |false=>have H0:=hid g;clear g;go_wp2_with fail;refine (d _ _).mono ?_;rintro e w' ⟨rfl,rfl⟩;rw[H0.out];go_wp2;go_ret;exact ⟨⟨k,rfl,by rw[Zj5 Hx.out H0.out];simp⟩,rfl⟩
   ·go_wp2;go_ret;have:k=n:=I;subst this;have:=He.out;rw[Z5 p.out] at this;exact ⟨⟨-1,rfl,by rw[ZgH this];rfl⟩,rfl⟩
 have f:Calls JG 309 #[.slice a n cap, .func (.func 310) #[] #[]] w fun e w'=>e= .returned (.bool (!Zfp xs))/\w=w':=by go_enter func309,ntmps309;go_wp2_with fail;refine c.mono ?_;rintro e w' ⟨⟨r,rfl,l⟩,rfl⟩;have s:=hid l;clear l;go_wp2;go_ret;exact ⟨Zm s.out,rfl⟩
 clear c;go_enter func295,ntmps295;go_wp2_with fail;refine f.mono ?_;rintro e w' ⟨rfl,rfl⟩;cases hz:Zfp xs with
 |true=>exact J6
 |false=>exact J6
theorem Zpd (a:Option Addr) (n cap:Nat) (xs:List Int) (w:World) (h:RdI w S a n cap xs) (hn:n<=2097152):
  Calls JG 176 #[.slice a n cap] w fun e w'=> ∃ r,e= .returned r/\OM w' (New w w') r (Zlv xs)/\Grow w w':=by
 have o:=h.len;go_enter func176,ntmps176;have p:Own (((w.alloc (.cells #[Yv Yi 0,Yv Yi 0, .slice none 0 0] 37)).alloc (.cells #[] 3))) 3 1 (some ⟨w.heap.size+1,0,none⟩) 0 0 []:=Own.freshAt Θ Γ rfl;have b:=(JP w #[Yv Yi 0,Yv Yi 0, .slice none 0 0] 37).alloc (.cells #[] 3);have j:Grow w ((w.alloc (.cells #[Yv Yi 0,Yv Yi 0, .slice none 0 0] 37)).alloc (.cells #[] 3)):=((JH _).alloc _ _).alloc _ _;go_wp2_with (at_builtin;refine ZD rfl (.tmp 5) (.tmp 6) _ rfl T_ints rfl p rfl (h.row.grow (((JH _).alloc _ _).alloc _ _)) (ZdE _) I Γ ?_;intro d f i hA2;obtain ⟨⟨s,t,v⟩,x,y,z⟩:=(b.keep hA2.keep Θ).three);have k:=b.keep hA2.keep Θ;have l:Grow w i:=hA2.grow j (fun g hg=>κ);have hl2:=hA2.lo (B:=w.heap.size+1) Θ (fun g hg=>κ);have m:Own i 3 1 d n f (ints xs):=Dc
 have hK:Keep (fun q=>q≠w.heap.size) i (((i.setCell ⟨w.heap.size,0,none⟩ (Yv Yi 1)).setCell ⟨w.heap.size,1,none⟩ (Yv Yi (n:Int))).setCell ⟨w.heap.size,2,none⟩ (.slice d n f)):=
  kS
 have c:=m.keep hK (fun g hg _ e=>Bf);refine Zx Zc rfl rfl rfl (((k.set 0 (Yv Yi 1)).set 1 (Yv Yi (n:Int))).set 2 (.slice d n f)) ⟨_,rfl,⟨d,n,f,by unfold Zlv;rw[←o];rfl,c,h.rng,fun g hg=>⟨Bf,c.lt hg⟩,by simp[Zlv,I64],by simp only[Zlv,I64,o];omega⟩,l.keep hK fun q A=>I⟩
theorem Own.ne_blk {e t:TypeId} {n g:Nat} {ds:Array Value} (ho:Own w e sz a n cap cs) (hb:Blk w g ds t) (hne:e≠t):blk a≠some g:=fun h=>by
 cases a with
 |none=>simp at h
 |some p=>simp at h;obtain ⟨_,c,b,_⟩:=ho.block p rfl;rw[h] at b;have:=b.symm.trans hb;exact I5

end Go.Proofs.YtgjefeiddfjjnaaGreatDoor
