/- Comparing simplices and finding one in a list: the program's functions (by slices.Equal, slices.Compare, slices.IndexFunc) and the reference's. -/
import Derived.Test.YtjpcgofidijigaaGreatDoorZHermY
set_option maxHeartbeats 8000000
set_option maxRecDepth 100000
namespace Go.Proofs.YtjpcgofidijigaaGreatDoor
open Go.RowKit
open Lib (hid)
variable {C R k n:Nat} {S T:Nat->Prop} {a:Option Addr} {m:Mat} {w:World}
theorem Zqp (a b:Option Addr) (n m cap cap':Nat) (xs ys:List Int) (w:World) (h:RdI w S a n cap xs) (h':RdI w T b m cap' ys) (hn:n<=2097152):
  Calls Tryz.prog 182 #[.slice a n cap, .slice b m cap'] w fun e w'=>e= .returned (.bool (ZnT xs ys))/\Qt w w':=by
 have hl:=h.len;have hl':=h'.len;by_cases hnm:n=m
 ·subst hnm;go_enter Tryz.func182,Tryz.ntmps182;go_wp2;go_loopw [13] (fun i wr=>Qt w wr/\ ∃ k:Nat,k<=n/\i= .int .i64 k/\xs.take k=ys.take k) (fun i _=>n-(intOf i).toNat);case atStart=>exact ⟨Qt.refl _,0,Nat.zero_le _,rfl,rfl⟩
  case round=>
   obtain ⟨hG,k,hk,rfl,he⟩:=hrel;have He:=hid he;clear he;by_cases hlt:k<n
   ·obtain ⟨b1,off1,x,rfl,hx,hxr,_,hbw,hc⟩:=(h.grow hG.grow).at hlt;obtain ⟨b2,off2,y,rfl,hy,hyr,_,hbw2,hc2⟩:=(h'.grow hG.grow).at hlt;have Hx:=hid hx;clear hx;have Hy:=hid hy;clear hy;by_cases hxy:x=y
    ·subst hxy;go_wp2
     go_quiet (fail)
     go_wp2;go_roundw;case rel=>exact ⟨hG.drewN _,k+1,by omega,by go_num,by rw[ZH Hx.out,ZH Hy.out,He.out]⟩
     case measure=>simp[intOf];omega
    ·have hxy':(x==y)=false:=(by simpa using hxy);go_wp2
     go_quiet (fail)
     go_wp2;go_ret;refine ⟨Zt (Eq.symm (decide_eq_false ?_)),hG.drewN _⟩;intro e;subst e;exact hxy (Option.some.inj (Hx.out.symm.trans Hy.out))
   ·go_wp2;go_ret;have:k=n:=(by omega);subst this;refine ⟨Zt (Eq.symm (decide_eq_true ?_)),hG⟩;have:=He.out
    rwa [Z7 hl,Z7 hl'] at this
 ·have hb:((n:Int)==(m:Int))=false:=by simp;omega
  go_enter Tryz.func182,Tryz.ntmps182;go_wp2;go_ret;refine ⟨Zt (Eq.symm (decide_eq_false ?_)),Qt.refl _⟩;intro e;subst e;omega
def cmpL:List Int->List Int->Int
 |x::xs,y::ys=>if x=y then cmpL xs ys else if x<y then -1 else 1
 |[],_::_=> -1
 |_::_,[]=>1
 |[],[]=>0
theorem Zef: ∀ {k:Nat} {xs ys:List Int},xs.take k=ys.take k->k<=ys.length->cmpL xs ys=cmpL (xs.drop k) (ys.drop k)
 |0,_,_,_,_=>rfl
 |k+1,[],ys,h,hk=>by
  cases ys with
  |nil=>rfl
  |cons y ys=>simp at h
 |k+1,x::xs,[],h,hk=>by simp at h
 |k+1,x::xs,y::ys,h,hk=>by simp only[List.take_succ_cons,List.cons.injEq] at h;obtain ⟨rfl,h⟩:=h;simp only[cmpL,if_true,List.drop_succ_cons];exact Zef h (by simpa using hk)
def Zhe (x y:Int):Int:=if x<y then -1 else if y<x then 1 else 0
theorem Zlk (x y:Int) (w:World):Calls Tryz.prog 164 #[.int .i64 x, .int .i64 y] w fun e w'=>e= .returned (.int .i64 (Zhe x y))/\w=w':=by
 have e1:(x==x)=true:=by simp
 have e2:(y==y)=true:=by simp
 go_enter Tryz.func164,Tryz.ntmps164;go_wp2;all_goals (go_ret;exact ⟨ZU (by unfold Zhe;first |rw[if_pos (by omega)]|rw[if_neg (by omega),if_pos (by omega)]|rw[if_neg (by omega),if_neg (by omega)]),rfl⟩)
theorem Zn6 (a b:Option Addr) (n m cap cap':Nat) (xs ys:List Int) (w:World) (h:RdI w S a n cap xs) (h':RdI w T b m cap' ys) (hn:n<=2097152) (_hm:m<=2097152):
  Calls Tryz.prog 126 #[.slice a n cap, .slice b m cap'] w fun e w'=>e= .returned (.int .i64 (cmpL xs ys))/\w=w':=by
 have hl:=h.len;have hl':=h'.len;go_enter Tryz.func126,Tryz.ntmps126;go_wp2;go_loop [11] (fun i=> ∃ k:Nat,k<=n/\k<=m/\i= .int .i64 k/\xs.take k=ys.take k) (fun i=>n-(intOf i).toNat);case atStart=>exact ⟨0,Nat.zero_le _,Nat.zero_le _,rfl,rfl⟩
 case round=>
  obtain ⟨k,hk,hkm,rfl,he⟩:=hrel;have He:=hid he;clear he;by_cases hlt:k<n
  ·obtain ⟨b1,off1,x,rfl,hx,hxr,_,hbw,hc⟩:=h.at hlt;have hdx:xs.drop k=x::xs.drop (k+1):=(by obtain ⟨h1,rfl⟩:=List.getElem?_eq_some_iff.1 hx;exact List.drop_eq_getElem_cons h1);have Hdx:=hid hdx;clear hdx;have Hx:=hid hx;clear hx;by_cases hlt2:k<m
   ·obtain ⟨b2,off2,y,rfl,hy,hyr,_,hbw2,hc2⟩:=h'.at hlt2;have hdy:ys.drop k=y::ys.drop (k+1):=(by obtain ⟨h1,rfl⟩:=List.getElem?_eq_some_iff.1 hy;exact List.drop_eq_getElem_cons h1);have Hdy:=hid hdy;clear hdy;have Hy:=hid hy;clear hy;have hs:=hid (Zef He.out (by omega));by_cases hxy:x=y
    ·subst hxy;have hz:Zhe x x=0:=(by simp[Zhe]);go_wp2_with (go_at_call 164;refine (Zlk _ _ _).mono ?_;rintro e w' ⟨rfl,rfl⟩;rw[hz])
     go_round
     case rel=>exact ⟨k+1,by omega,by omega,by go_num,by rw[ZH Hx.out,ZH Hy.out,He.out]⟩
     case measure=>simp[intOf];omega
    ·by_cases hlt3:x<y
     ·have hz:Zhe x y= -1:=(by simp[Zhe,hlt3]);go_wp2_with (go_at_call 164;refine (Zlk _ _ _).mono ?_;rintro e w' ⟨rfl,rfl⟩;rw[hz]);go_ret;exact ⟨ZU (by rw[hs.out,Hdx.out,Hdy.out];simp only[cmpL];rw[if_neg hxy,if_pos hlt3]),rfl⟩
     ·have hz:Zhe x y=1:=(by unfold Zhe;rw[if_neg hlt3,if_pos (by omega)]);have hlt4:=hid hlt3;clear hlt3;go_wp2_with (go_at_call 164;refine (Zlk _ _ _).mono ?_;rintro e w' ⟨rfl,rfl⟩;rw[hz]);go_ret;exact ⟨ZU (by rw[hs.out,Hdx.out,Hdy.out];simp only[cmpL];rw[if_neg hxy,if_neg (by have:=hlt4.out;omega)]),rfl⟩
   ·go_wp2;go_ret;refine ⟨ZU ?_,rfl⟩;have hyd:ys.drop k=[]:=(by rw[List.drop_eq_nil_iff];omega);rw[Zef He.out (by omega),Hdx.out,hyd];rfl
  ·have:k=n:=(by omega);subst this;by_cases hlt2:k<m
   ·go_wp2;go_ret;refine ⟨ZU ?_,rfl⟩;have hxd:xs.drop k=[]:=(by rw[List.drop_eq_nil_iff];omega);rw[Zef He.out (by omega),hxd,List.drop_eq_getElem_cons (show k<ys.length by omega)];rfl
   ·go_wp2;go_ret;refine ⟨ZU ?_,rfl⟩;have hxd:xs.drop k=[]:=(by rw[List.drop_eq_nil_iff];omega);have hyd:ys.drop k=[]:=(by rw[List.drop_eq_nil_iff];omega);rw[Zef He.out (by omega),hxd,hyd];rfl
theorem SepII.app {w0 w2 w3:World} {a' b:Option Addr} {cap' c:Nat} {vs:List Value} {xss:List (List Int)} {xs:List Int} (hI:Inner w (New w0 w) (blk a) vs xss) (hlo: ∀ g,blk a=some g->New w0 w g) (hg:Grow w w2)
  (hb:Own w2 3 1 b xs.length c (ints xs)) (hr: ∀ x∈xs,I64 x) (h0:w0.heap.size<=w.heap.size) (hbn: ∀ q,blk b=some q->w.heap.size<=q) (ha:Apped w2 w3 32 1 a a' n cap' (vs++[.slice b xs.length c])):
  SepII w3 (New w0 w3) a' n cap' (xss++[xs]):=by
 have hs2:=hg.size;have hs3:=ha.keep.size;have hI2:Inner w2 (New w0 w3) (blk a) vs xss:=(hI.grow hg).weak fun q _ hF hne=>⟨⟨hF.1,by have:=hF.2;omega⟩,hne⟩
 have hI3:=hI2.snoc (b:=b) (c:=c) hb hr
  (fun q hq=>⟨⟨by have:=hbn q hq;omega,by have:=hb.lt hq;omega⟩,fun e=>by have:=(hlo q e).2;have:=hbn q hq;omega⟩)
  (fun q hq v hv hvq=>by have:=(hI.lt hv hvq).1;have:=hbn q hq;omega)
 refine ⟨⟨_,ha.own,hI3.move ha.keep fun q hq hF hne=>⟨hne,hF, ?_⟩⟩,fun g hg'=>⟨?_,ha.own.lt hg'⟩⟩
 ·rcases ha.new with e|⟨g,e,hge⟩
  ·rw[e];exact hne
  ·rw[e];intro e2;have:=Option.some.inj e2;omega
 ·rcases ha.new with e|⟨g',e,hge⟩
  ·have:=(hlo g (by rw[←e];exact hg')).1;omega
  ·rw[e] at hg';have:=Option.some.inj hg';omega
def Zsx (l:List (List Int)) (k:Int):List (List Int):=l.filter fun s=>(s.length:Int)-1==k
theorem SepII.fresh0 (w:World):SepII (w.alloc (.cells #[] 32)) (New w (w.alloc (.cells #[] 32))) (some ⟨w.heap.size,0,none⟩) 0 0 []:=
 ⟨⟨[],Own.fresh (by unfold maxLen;omega) rfl,Inner.nilw⟩,fun g hg=>by simp at hg;subst hg;exact ⟨Nat.le_refl _,by simp⟩⟩
def few (l:List (List Int)):Prop:= ∀ k:Nat,k<4->(Zsx l k).length<=24
theorem RdII.pre {cap:Nat} {l:List (List Int)} (h:RdII w S a n cap l) (hk:k<=n):RdII w S a k cap (l.take k):=by
 obtain ⟨⟨vs,h1,h2⟩,hl⟩:=h;have hvl:=h1.len;refine ⟨⟨vs.take k,⟨by simp;omega,by have:=h1.le;omega,h1.max,h1.nil,fun hne=> ?_⟩,fun i xs hi=> ?_⟩,by simp;omega⟩
 ·have:vs≠[]:=by intro e;subst e;simp at hne
  obtain ⟨b,off,rfl,hS,hc⟩:=h1.addr this;refine ⟨b,off,rfl,hS,fun j c hj=>hc j c ?_⟩;rw[List.getElem?_take] at hj;split at hj
  ·exact hj
  ·cases hj
 ·rw[List.getElem?_take] at hi;split at hi
  ·rename_i hik;obtain ⟨b,c,h3,h4⟩:=h2 i xs hi;exact ⟨b,c,by rw[List.getElem?_take,if_pos hik];exact h3,h4⟩
  ·cases hi
def Zfk (m:List Int) (C R i:Nat):Nat->List Int->List Int
 |0,x=>x
 |j+1,x=>(Zfk m C R i j x).set (j*R+i) (cell m C i j)
def ZcJ (m:List Int) (C R:Nat):Nat->List Int
 |0=>List.replicate (C*R) 0
 |i+1=>Zfk m C R i C (ZcJ m C R i)
def Zd7 (m:Mat):Mat:={rows:=m.cols,cols:=m.rows,cells:=ZcJ m.cells m.cols.toNat m.rows.toNat m.rows.toNat}
theorem ZjZ (m:List Int) (C R i:Nat): ∀ (j:Nat) (x:List Int),(Zfk m C R i j x).length=x.length
 |0,_=>rfl
 |j+1,x=>by simp[Zfk,ZjZ m C R i j x]
theorem Zkx (m:List Int) (C R:Nat): ∀ i,(ZcJ m C R i).length=C*R
 |0=>by simp[ZcJ]
 |i+1=>by simp only[ZcJ];rw[ZjZ,Zkx m C R i]
theorem ZjX {m:List Int} {C R i:Nat} (hm:NumL m): ∀ {j:Nat} {x:List Int},NumL x->NumL (Zfk m C R i j x)
 |0,_,h=>h
 |j+1,x,h=>fun y hy=>by
  rcases List.mem_or_eq_of_mem_set hy with h1|h1
  ·exact ZjX hm (j:=j) h y h1
  ·subst h1;exact Zo hm C i j
theorem Zhu {m:List Int} {C R:Nat} (hm:NumL m): ∀ {i:Nat},NumL (ZcJ m C R i)
 |0=>fun x hx=>by rw[(List.mem_replicate.1 hx).2];omega
 |i+1=>by simp only[ZcJ];exact ZjX hm (Zhu hm)
theorem Zk4 {cells:List Int}:Zd7 {rows:=(R:Int),cols:=(C:Int),cells:=cells}={rows:=(C:Int),cols:=(R:Int),cells:=ZcJ cells C R R}:=rfl
theorem ZpF (h:Ze m=true):Ze (Zd7 m)=true:=by
 obtain ⟨R,C,hmr,hmc,hR,hC,hl,hnum⟩:=Zn h;obtain ⟨mr,mc,cells⟩:=m;simp only at hmr hmc hl hnum;subst hmr;subst hmc;rw[Zk4];exact Za9 hC hR (Zkx _ _ _ _) (Zhu hnum)
theorem ZgQ {m:List Int} {i:Nat} (hl:m.length=R*C) (hi:i<R) (hk:k<C):m[i*C+k]? =some (cell m C i k):=by
 have:=Zr hk hi;unfold cell;simp[List.getD,List.getElem?_eq_getElem (show i*C+k<m.length by omega)]
theorem ZjC (a:Option Addr) (n cp R C:Nat) (m:List Int) (w:World) (h:RdI w S a n cp m) (hl:m.length=R*C) (hnum:NumL m) (hR:R<=24) (hC:C<=24):
  Calls Tryz.prog 136 #[.agg #[.int .i64 R, .int .i64 C, .slice a n cp]] w fun e w'=> ∃ r,e= .returned (.tuple #[r, .bool true])/\OM w' (New w w') r {rows:=(C:Int),cols:=(R:Int),cells:=ZcJ m C R R}/\Grow w w':=by
 have hnl:=h.len;have hRC:R*C<=24*24:=Nat.mul_le_mul hR hC;have hCR:C*R<=24*24:=Nat.mul_le_mul hC hR;obtain ⟨w2,hw2,hG2,bM,bZ, -⟩:=al2 w #[.int .i64 (R:Int), .int .i64 (C:Int), .slice a n cp] 34 #[.int .i64 0, .int .i64 0, .slice none 0 0] 34;have Hw2:=hid hw2;clear hw2;have HB:=hid (Za9 hR hC hl hnum);have rw0:RdI w (fun g=>g<w.heap.size) a n cp m:=h.weak (fun g hg _=>hg);have h2:=h.grow hG2;have hVM:VM w2 S (.agg #[.int .i64 (R:Int), .int .i64 (C:Int), .slice a n cp]) {rows:=(R:Int),cols:=(C:Int),cells:=m}:=⟨a,n,cp,rfl,h2,by unfold I64;simp only;omega,by unfold I64;simp only;omega⟩;have hbd:bdM {rows:=(R:Int),cols:=(C:Int),cells:=m}<=2097152:=by unfold bdM;simp only;omega
 go_enter Tryz.func136,Tryz.ntmps136;go_wp2_with fail;rw[←Hw2.out];refine (Zz hVM hbd).mono ?_;rintro e w3 ⟨rfl,hG3⟩;rw[HB.out];have bM3:=bM.grow hG3;have bZ3:=bZ.grow hG3;have hG13:=hG2.trans hG3;have r3:=rw0.grow hG13;obtain ⟨⟨a0,a1,a2⟩, -⟩:=bM3.three;have hltM3:=bM3.lt;have hltZ3:=bZ3.lt;clear hVM hbd bM bZ h h2;go_wp2_with fail;refine (Zb1 C R _ (by omega) (by omega)).mono ?_;rintro e w4 ⟨oa,rfl,hO,hlo,hG4⟩;obtain ⟨w5,hw5,hG5,bO5, -⟩:=al1 w4 #[.int .i64 (C:Int), .int .i64 (R:Int), .slice oa (C*R) (C*R)] 34;have hO5:=hO.grow hG5;have hltA: ∀ g,blk oa=some g->g<w4.heap.size:=fun g hg=>hO.lt hg;have hs4:=hG4.size;have bM5:=(bM3.grow hG4).grow hG5;have bZ5:=(bZ3.grow hG4).grow hG5;have r5:=(r3.grow hG4).grow hG5;have hG15:=(hG13.trans hG4).trans hG5;have Hw5:=hid hw5;have Hl:=hid hl;have Hnum:=hid hnum;have hn576:n<=576:=by omega
 clear hw5 a0 a1 a2 hO hl hnum bM3 bZ3;go_wp2;rw[←Hw5.out];go_loopw [5] (fun q wr=>Keep (fun g=>blk oa≠some g) w5 wr/\ ∃ i:Nat,i<=R/\q= .int .i64 i/\Own wr 3 1 oa (C*R) (C*R) (ints (ZcJ m C R i))) (fun q _=>R-(intOf q).toNat);case atStart=>exact ⟨Keep.refl _ _,0,Nat.zero_le _,rfl,hO5⟩
 case round=>
  clear hO5;obtain ⟨wo,rfl⟩: ∃ wo,wo=wr:=⟨_,rfl⟩;obtain ⟨hK,i,hi,rfl,hO⟩:=hrel;have bMr:=bM5.keep hK (fun e=>by have:=hlo _ e;omega);obtain ⟨⟨a0,a1,a2⟩, -⟩:=bMr.three;by_cases hiR:i<R
  ·go_wp2;go_loopw [6] (fun q u=>Keep (fun g=>blk oa≠some g) wo u/\ ∃ j:Nat,j<=C/\q= .int .i64 j/\Own u 3 1 oa (C*R) (C*R) (ints (Zfk m C R i j (ZcJ m C R i)))) (fun q _=>C-(intOf q).toNat);case atStart=>exact ⟨Keep.refl _ _,0,Nat.zero_le _,rfl,hO⟩
   case round=>
    clear hO;obtain ⟨u,rfl⟩: ∃ u,u=wr:=⟨_,rfl⟩;obtain ⟨hK2,j,hj,rfl,hO⟩:=hrel;have hK5u:=hK.trans hK2;have bMu:=bM5.keep hK5u (fun e=>by have:=hlo _ e;omega);have bOu:=bO5.keep hK5u (fun e=>by have:=hltA _ e;omega);have rMu:=r5.keep hK5u (fun g _ hg e=>by have:=hlo _ e;omega);clear a0 a1 a2;obtain ⟨⟨a0,a1,a2⟩, -⟩:=bMu.three;by_cases hjC:j<C
    ·have hgc:=ZgQ Hl.out hiR hjC;have hplace:j*R+i<C*R:=Zr hiR hjC;have Hst:=hid (show Zfk m C R i (j+1) (ZcJ m C R i)=(Zfk m C R i j (ZcJ m C R i)).set (j*R+i) (cell m C i j) from rfl);generalize cell m C i j=x at *;go_wp2;refine Zaq (S:=(Grow u)) (last:=7) [([0,1,2,3,4,5],some 6),([],some 7)] Zm (by kernel_rfl) (fun _ _ _ _ _ h=>h) (Grow.refl _).drew ?_;show wpQuiet _ _ _ _ [_,_,_,_,_,_] _;(repeat (first |(go_big_quiet_want;(first |refine Zh Zc rfl rfl (fun w' hG=>bOu.grow hG) ?_|refine Zh Zc rfl rfl (fun w' hG=>bMu.grow hG) ?_);go_big_quiet_on;simp only[putP])|go_big_quiet_step (exact fun _=>rfl)));refine wpQuiet_nil ?_;refine ZT rfl (fun K hK=> ?_);go_wp2_with fail;refine (Zai a n cp C i j _ (R:Int) x m _ (rMu.grow (Grow.refl _).drew) rfl hgc (by omega) (by omega) (by omega) (by omega)).mono ?_;rintro e w6 ⟨rfl,hG6⟩;have hG06:=(Grow.refl u).drew.trans hG6;go_wp2_with fail;refine hK _ _ ((fun _=>hG06)) ?_;clear hK K;refine wpQuiet_nil ?_;refine ZT rfl (fun K hK=> ?_);go_wp2_with fail;refine (ZhO oa (C*R) (C*R) R j i _ (C:Int) x _ _ (hO.grow hG06) rfl hplace (by omega) (by omega) (by omega) (by omega)).mono ?_;rintro e w7 ⟨rfl,hO7,hK7⟩;rw[←Hst.out] at hO7;have hK27:Keep (fun g=>blk oa≠some g) wo w7:=(hK2.trans hG06.any).trans hK7;go_wp2_with fail;refine hK _ _ ((fun h=>(h rfl).elim)) ?_;clear hK K;refine Zbb ?_;go_wp2;go_roundw;case rel=>exact ⟨hK27,j+1,by omega,by go_num,hO7⟩
     case measure=>simp[intOf];omega
    ·have hjE:j=C:=(by omega);subst hjE;go_wp2;go_roundw;case rel=>exact ⟨hK5u,i+1,by omega,by go_num,hO⟩
     case measure=>simp[intOf];omega
  ·have hiE:i=R:=(by omega);subst hiE;have bOr:=bO5.keep hK (fun e=>by have:=hltA _ e;omega);have bZr:=bZ5.keep hK (fun e=>by have:=hlo _ e;omega);have hGr:Grow w wo:=Grow.keep (S:=fun g=>blk oa≠some g) hG15 hK (fun g hg e=>by have:=hlo _ e;omega);have rN:=Zy (Zhu (C:=C) (R:=i) (i:=i) Hnum.out);obtain ⟨⟨o0,o1,o2⟩, -⟩:=bOr.three;obtain ⟨⟨z0,z1,z2⟩,g0,g1,g2⟩:=bZr.three;have hltZ:=bZr.lt;have hltO:=bOr.lt;have hKs:Keep (fun q=>q≠w.heap.size+1) wo (((wo.setCell ⟨w.heap.size+1,0,none⟩ (.int .i64 (C:Int))).setCell ⟨w.heap.size+1,1,none⟩ (.int .i64 (i:Int))).setCell ⟨w.heap.size+1,2,none⟩ (.slice oa (C*i) (C*i))):=
    (((Keep.refl _ wo).setCell (fun _ e=>e rfl) _).setCell (fun _ e=>e rfl) _).setCell (fun _ e=>e rfl) _
   have hof:=hO.keep hKs (fun g hg _ e=>by have:=hlo g hg;omega);have hGf:=hGr.keep hKs (fun q hq=>by omega);have hs13:=hG13.size;go_wp2;exact Zd Zc rfl rfl rfl (((bZr.set 0 _).set 1 _).set 2 _) ⟨_,rfl,⟨oa,C*i,C*i,rfl,hof,rN,(fun g hg=>⟨by have:=hlo g hg;omega,hof.lt hg⟩),by show I64 (C:Int);unfold I64;omega,by show I64 (i:Int);unfold I64;omega⟩,hGf⟩
theorem Zmr {v:Value} (h:VM w S v m) (hB:Ze m=true):
  Calls Tryz.prog 136 #[v] w fun e w'=> ∃ r,e= .returned (.tuple #[r, .bool true])/\OM w' (New w w') r (Zd7 m)/\Grow w w':=by
 obtain ⟨a,n,c,rfl,h, -, -⟩:=h;obtain ⟨R,C,hmr,hmc,hR,hC,hl,hnum⟩:=Zn hB;obtain ⟨mr,mc,cells⟩:=m;simp only at hmr hmc hl hnum h;subst hmr;subst hmc;rw[Zk4];exact ZjC a n c R C cells w h hl hnum hR hC

end Go.Proofs.YtjpcgofidijigaaGreatDoor
