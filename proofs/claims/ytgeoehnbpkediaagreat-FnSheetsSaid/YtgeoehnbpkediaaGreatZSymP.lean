/- Symmetric matrices by their cells, and a step of a reduction as the reference takes it: plain. -/
import Derived.Test.YtgeoehnbpkediaaGreatZRedP
import Derived.Test.YtgeoehnbpkediaaGreatZGramS
set_option maxHeartbeats 8000000
set_option maxRecDepth 100000
namespace Go.Proofs.YtgeoehnbpkediaaGreat
open Go.RowKit
open Lib (hid)
variable {N i j k n:Nat} {S:Nat->Prop} {m:Mat} {t:Int} {v:Value} {w:World}
theorem Zkj {m:List Int} {C R i:Nat} (hi:i<R): ∀ {j:Nat} {x:List Int},j<=C->x.length=C*R-> ∀ j' i',i'<R->cell (ZcA m C R i j x) R j' i'=if i'=i/\j'<j then cell m C i j' else cell x R j' i'
 |0,x,_,_,j',i',_=>by rw[if_neg (by omega)];rfl
 |j+1,x,hj,hl,j',i',hi'=>by
  have hp:=Zl (C:=R) (R:=C) hi (show j<C by omega);have ih:=Zkj (m:=m) hi (j:=j) (by omega) hl j' i' hi';unfold cell at ih ⊢;simp only[ZcA];rw[ZdE (by rw[Zhk];omega)];by_cases e:j'*R+i'=j*R+i
  ·obtain ⟨rfl,rfl⟩:=Zch hi' hi e;rw[if_pos rfl,if_pos ⟨rfl,by omega⟩];rfl
  ·rw[if_neg e,ih];have:(i'=i/\j'<j+1)↔(i'=i/\j'<j):=by
    constructor
    ·rintro ⟨h1,h2⟩;refine ⟨h1, ?_⟩;have:j'≠j:=fun e2=>e (by rw[h1,e2]);omega
    ·rintro ⟨h1,h2⟩;exact ⟨h1,by omega⟩
   simp only[this]
theorem ZhN {m:List Int} {C R:Nat}: ∀ {n:Nat},n<=R-> ∀ j i,i<n->j<C->cell (Za6 m C R n) R j i=cell m C i j
 |0,_,_,i,h,_=>by omega
 |n+1,hn,j,i,h,hj=>by
  simp only[Za6];rw[Zkj (by omega) (Nat.le_refl _) (Zfh _ _ _ _) j i (by omega)];by_cases e:i=n
  ·rw[if_pos ⟨e,hj⟩,e]
  ·rw[if_neg (by omega)];exact ZhN (by omega) j i (by omega) hj
def ZeJ (g:List Int) (n i:Nat):Bool:=(List.range i).all fun r=>(List.range r).all fun j=>cell g n r j==cell g n j r
def Zgq (g:List Int) (n i j:Nat):Bool:=(List.range j).all fun c=>cell g n i c==cell g n c i
theorem Zm3 (g:List Int) (n i:Nat):ZeJ g n (i+1)=(ZeJ g n i&&Zgq g n i i):=by unfold ZeJ Zgq;rw[List.range_succ,List.all_append];simp
theorem Zna (g:List Int) (n i j:Nat):Zgq g n i (j+1)=(Zgq g n i j&&cell g n i j==cell g n j i):=by unfold Zgq;rw[List.range_succ,List.all_append];simp
theorem ZpZ {g:List Int} (hi:i<n) (hj:j<i) (h:cell g n i j≠cell g n j i):ZeJ g n n=false:=by
 rw[Bool.eq_false_iff];intro e;unfold ZeJ at e;rw[List.all_eq_true] at e;have h1:=e i (List.mem_range.2 hi);rw[List.all_eq_true] at h1;have h2:=h1 j (List.mem_range.2 hj);exact h (by simpa using h2)
theorem Zot (hr:m.rows=(N:Int)) (hc:m.cols=(N:Int)) (hl:m.cells.length=N*N):Zb3 (Zbv m) m=ZeJ m.cells N N:=by
 obtain ⟨mr,mc,cells⟩:=m;simp only at hr hc hl;subst hr;subst hc;rw[Zgn];have e:Zb3 {rows:=(N:Int),cols:=(N:Int),cells:=Za6 cells N N N} {rows:=(N:Int),cols:=(N:Int),cells:=cells}=Zgg (Za6 cells N N N) cells:=by unfold Zb3;simp
 rw[e,Bool.eq_iff_iff];unfold Zgg;rw[decide_eq_true_eq];constructor
 ·intro h;unfold ZeJ;rw[List.all_eq_true];intro r hr;have hr:=List.mem_range.1 hr;rw[List.all_eq_true];intro j hj;have hj:=List.mem_range.1 hj;have h1:=ZhN (m:=cells) (C:=N) (R:=N) (Nat.le_refl _) j r hr (by omega);rw[h] at h1;simp[h1]
 ·intro h;refine Zbj (Zfh _ _ _ _) hl fun i j hi hj=> ?_;rw[ZhN (Nat.le_refl _) i j hj hi];unfold ZeJ at h;rw[List.all_eq_true] at h;rcases Nat.lt_trichotomy i j with hlt|rfl|hlt
  ·have h1:=h j (List.mem_range.2 hj);rw[List.all_eq_true] at h1;simpa using h1 i (List.mem_range.2 hlt)
  ·rfl
  ·have h1:=h i (List.mem_range.2 hi);rw[List.all_eq_true] at h1;have h2:=h1 j (List.mem_range.2 hlt);have h3:cell cells N i j=cell cells N j i:=(by simpa using h2);exact h3.symm
theorem Zqc (h:Zad m=true) (hr:m.rows=(N:Int)) (hc:m.cols=(N:Int)) (hl:m.cells.length=N*N):Zbu m=ZeJ m.cells N N:=by
 unfold Zbu;rw[h,Bool.true_and,Zot hr hc hl]
def Zgu (n k j:Nat) (t:Int) (s:HS):HS:=(Zcs (Za5 s.1 n k j t) n n k j t,Za5 s.2 n k j t)
theorem Zo4 {s:HS} (h:Hm n n s):Hm n n (Zgu n k j t s):=⟨ZcB _ _ _ _ _ _,by show (Za5 s.2 n k j t).length=_;rw[ZcY];exact h.lu,ZgW (Zdo h.na),Zdo h.nu⟩
theorem Zll {S:SS} (h:Ss n n S) (hT:Trp n S) (hk:k<n) (hj:j<n) (hkj:k≠j) (ht: -400000000<=t/\t<=400000000):
  (∃ S',Zb5 n k j t S=some S'/\(S'.1,S'.2.1)=Zgu n k j t (S.1,S.2.1)/\Ss n n S'/\Trp n S')\/(Zb5 n k j t S=none/\(ZO∈(Zgu n k j t (S.1,S.2.1)).1\/ZO∈(Zgu n k j t (S.1,S.2.1)).2)):=by
 rcases Ze1 h hk ht with h1|⟨h1,hm⟩
 ·have hs1:=ZcZ h h1;have hok:Zah S.2.1 n k j t=true:=by
   unfold ZaP at h1;split at h1
   ·rename_i hb;rw[Bool.and_eq_true] at hb;exact hb.2
   ·cases h1
  have hc2:=Zqj hT hk hj hok;have e1:Zb5 n k j t S=Zbp n n k j t (ZbT n n k j t S):=by unfold Zb5;rw[h1];rfl
  have e2:(ZbT n n k j t S).2.2=S.2.2:=rfl;have e3:(ZbT n n k j t S).1=Za5 S.1 n k j t:=rfl;cases hc:Zbr (Za5 S.1 n k j t) n n k j t with
  |true=>have e4:Zbp n n k j t (ZbT n n k j t S)=some (Zdk (Za5 S.1 n k j t) n n k j t,Za5 S.2.1 n k j t,Zdk S.2.2 n n k j t):=(by unfold Zbp;rw[e2,e3,hc,hc2];rfl);rw[e4] at e1;refine .inl ⟨_,e1, ?_,ZkK h e1,ZpX h hT hk hj hkj e1⟩;unfold Zgu;rw[ZgY (by have:=hs1.1.na;rwa [e3] at this) ht hc]
  |false=>
   refine .inr ⟨?_, .inl ?_⟩
   ·rw[e1];unfold Zbp;rw[e2,e3,hc];rfl
   ·exact ZgZ hk (by have:=hs1.1.na;rwa [e3] at this) ht hc
 ·refine .inr ⟨by unfold Zb5;rw[h1];rfl, ?_⟩;rcases hm with hm|hm|hm
  ·exact .inl (ZfC (by rw[ZcY];exact h.la) hm)
  ·exact .inr hm
  ·exact absurd rfl (ZaM (h.nv _ hm))
theorem ZnW (hi:i<n) (hj:j<n):cell (idL n) n i j=if i=j then 1 else 0:=by
 have key: ∀ (k:Nat),k<=n->((List.range k).foldl (fun l i=>l.set (i*n+i) 1) (List.replicate (n*n) (0:Int))).length=n*n/\ ∀ i j,i<n->j<n->((List.range k).foldl (fun l i=>l.set (i*n+i) 1) (List.replicate (n*n) (0:Int))).getD (i*n+j) 0=if i=j/\i<k then 1 else 0:=by
  intro k;induction k with
  |zero=>intro _;refine ⟨by simp,fun i j hi hj=> ?_⟩;rw[if_neg (by omega)];simp only[List.range_zero,List.foldl_nil,List.getD_eq_getElem?_getD,List.getElem?_replicate];split<;>rfl
  |succ k ih=>
   intro hk;obtain ⟨h1,h2⟩:=ih (by omega);rw[List.range_succ,List.foldl_append];refine ⟨by simp only[List.foldl_cons,List.foldl_nil,List.length_set];exact h1,fun i j hi hj=> ?_⟩;simp only[List.foldl_cons,List.foldl_nil];rw[ZdE (by rw[h1];exact Zl (by omega) (by omega)),h2 i j hi hj];by_cases e:i*n+j=k*n+k
   ·obtain ⟨rfl,rfl⟩:=Zch hj (by omega) e;rw[if_pos rfl,if_pos ⟨rfl,by omega⟩]
   ·rw[if_neg e];have:(i=j/\i<k+1)↔(i=j/\i<k):=by
     constructor
     ·rintro ⟨h3,h4⟩;refine ⟨h3, ?_⟩;have:i≠k:=fun e2=>e (by subst e2;subst h3;rfl);omega
     ·rintro ⟨h3,h4⟩;exact ⟨h3,by omega⟩
    simp only[this]
 have:=(key n (Nat.le_refl _)).2 i j hi hj;unfold cell idL;rw[this];by_cases e:i=j
 ·rw[if_pos ⟨e,hi⟩,if_pos e]
 ·rw[if_neg (fun h=>e h.1),if_neg e]
theorem ZnL (n:Nat) (g:List Int):Trp n (g,idL n,idL n):=fun i j hi hj=>by
 show cell (idL n) n i j=cell (idL n) n j i;rw[ZnW hi hj,ZnW hj hi];by_cases e:i=j
 ·rw[if_pos e,if_pos e.symm]
 ·rw[if_neg e,if_neg (Ne.symm e)]
theorem ZmW (h:VM w S v m) (hb:bdM m<=1048576):
  Calls Tryz.prog 178 #[v] w fun e w'=>e= .returned (.bool (Zbu m))/\Grow w w':=by
 have hV:=h;obtain ⟨a,n,c,rfl,h,ir,ic⟩:=h;obtain ⟨w1,hw1,hG1,bM, -⟩:=al1 w #[.int .i64 m.rows, .int .i64 m.cols, .slice a n c] 28;have Hw1:=hid hw1;clear hw1;cases hm:Zad m with
 |false=>
  have Hr:=hid (show Zbu m=false by unfold Zbu;rw[hm];rfl);have Hm:=hid hm;clear hm;go_enter Tryz.func178,Tryz.ntmps178;go_wp2_with fail;rw[←Hw1.out];go_loopw [3] (fun kv wr=>Grow w1 wr/\kv= .int .i64 0) (fun _ _=>0);case atStart=>exact ⟨Grow.refl _,rfl⟩
  case round=>
   obtain ⟨hGr,rfl⟩:=hrel;have bMr:=bM.grow hGr;obtain ⟨⟨m0,m1,m2⟩, -⟩:=bMr.three;have hltr:=bMr.lt;have hG:=hG1.trans hGr;by_cases h1:0<m.rows
   ·go_wp2_with fail;refine (ZaU (hV.grow hG) hb).mono ?_;rintro e w2 ⟨rfl,hG2⟩;rw[Hm.out];have bM2:=bMr.grow hG2;clear m0 m1 m2 hltr;obtain ⟨⟨m0,m1,m2⟩, -⟩:=bM2.three;have hltr:=bM2.lt;go_wp2_with fail;refine (ZaU ((hV.grow hG).grow hG2) hb).mono ?_;rintro e w3 ⟨rfl,hG3⟩;rw[Hm.out];go_wp2;go_ret;exact ⟨Zo Hr.out.symm,(hG.trans hG2).trans hG3⟩
   ·go_wp2_with fail;refine (ZaU (hV.grow hG) hb).mono ?_;rintro e w2 ⟨rfl,hG2⟩;rw[Hm.out];go_wp2;go_ret;exact ⟨Zo Hr.out.symm,hG.trans hG2⟩
 |true=>
  obtain ⟨N,e1,e2,hN,hl,hn⟩:=Ze8 hm;have Hr:=hid (Zqc hm e1 e2 hl);have Hm:=hid hm;obtain ⟨g,hg⟩: ∃ g,g=m.cells:=⟨_,rfl⟩;rw[e1,e2] at bM Hw1;rw[←hg] at hl hn Hr;have rd1:RdI w1 S a n c g:=by rw[hg];exact h.grow hG1
  have hln:=rd1.len;have Hl:=hid hl;have HV:=hid (fun (w':World) (hG:Grow w w')=>(by rw[e1,e2] at hV;exact hV.grow hG:VM w' S (.agg #[.int .i64 (N:Int), .int .i64 (N:Int), .slice a n c]) m));have Hpl:=hid (fun (i j:Nat) (hi:i<N) (hj:j<N)=>(by rw[←hln,hl];exact Zl hj hi:i*N+j<n));clear hm hg h hV hl ir ic hn hln;rw[e1,e2];clear e1 e2;go_enter Tryz.func178,Tryz.ntmps178;go_wp2_with fail;rw[←Hw1.out];go_loopw [3] (fun kv wr=>Grow w1 wr/\ ∃ i:Nat,i<=N/\kv= .int .i64 i/\ZeJ g N i=true) (fun k _=>N-(intOf k).toNat);case atStart=>exact ⟨Grow.refl _,0,Nat.zero_le _,rfl,rfl⟩
  case round=>
   obtain ⟨hGr,i,hi,rfl,hs⟩:=hrel;have bMr:=bM.grow hGr;obtain ⟨⟨m0,m1,m2⟩, -⟩:=bMr.three;have hltr:=bMr.lt;have hG:=hG1.trans hGr;by_cases hlt:i<N
   ·have Hs1:=hid (show ZeJ g N (i+1)=Zgq g N i i by rw[Zm3,hs];rfl);clear hs;go_wp2_with fail;refine (ZaU (HV.out _ hG) hb).mono ?_;rintro e w2 ⟨rfl,hG2⟩;rw[Hm.out];have hGr2:=hGr.trans hG2;clear m0 m1 m2 hltr bMr;go_wp2;obtain ⟨wo,rfl⟩: ∃ wo,wo=wr:=⟨_,rfl⟩;go_loopw [4] (fun kv wr=>Grow w1 wr/\ ∃ j:Nat,j<=i/\kv= .int .i64 j/\Zgq g N i j=true) (fun k _=>i-(intOf k).toNat);case atStart=>exact ⟨hGr2,0,Nat.zero_le _,rfl,rfl⟩
    case round=>
     obtain ⟨hGj,j,hj,rfl,hs⟩:=hrel;have bMr:=bM.grow hGj;obtain ⟨⟨m0,m1,m2⟩, -⟩:=bMr.three;have hltr:=bMr.lt;have hGw:=hG1.trans hGj;by_cases hltj:j<i
     ·have Hs2:=hid (show Zgq g N i (j+1)=(cell g N i j==cell g N j i) by rw[Zna,hs];rfl);have p1:=Hpl.out i j hlt (by omega);have p2:=Hpl.out j i (by omega) hlt;have rdr:=rd1.grow hGj;clear hs;go_wp2_with fail;clear m0 m1 m2;refine Zd (S:=Grow wr) [([0,1,2,4,5,6],some 3),([],some 7),([8],none)] Zm (by kernel_rfl) (fun _ _ _ _ _ h=>h) (Grow.refl _).drew ?_;show wpQuiet _ _ _ _ [_,_,_,_,_,_] _;(repeat (first |(go_big_quiet_want;refine Zc Zb rfl rfl (fun w' hG=>bMr.grow hG) ?_;go_big_quiet_on;simp only[putP])|go_big_quiet_step (exact fun _=>rfl)));refine wpQuiet_nil ?_;refine Zh rfl (fun K hK=> ?_);go_wp2_with fail;refine (ZK a n c N i j (N:Int) g _ (rdr.grow (Grow.refl _).drew) p1 (by omega) (by omega) (by omega)).mono ?_;rintro e w3 ⟨rfl,hG3⟩;have hGa:=(Grow.refl wr).drew.trans hG3;go_wp2_with fail;refine hK _ _ (hGa) ?_;clear hK K;refine wpQuiet_nil ?_;refine Zh rfl (fun K hK=> ?_);go_wp2_with fail;refine (ZK a n c N j i (N:Int) g _ (rdr.grow hGa) p2 (by omega) (by omega) (by omega)).mono ?_;rintro e w4 ⟨rfl,hG4⟩;have hGb:=hGa.trans hG4;go_wp2_with fail;refine hK _ _ (hGb) ?_;clear hK K;show wpQuiet _ _ _ _ [_] _;(try (conv=>arg 6;simp only[putP]));(repeat (first |(go_big_quiet_want;refine Zc Zb rfl rfl (fun w' hG=>bMr.grow hG) ?_;go_big_quiet_on;simp only[putP])|go_big_quiet_step (exact fun _=>rfl)));refine wpQuiet_nil ?_;refine Zi ?_;by_cases he:cell g N i j=cell g N j i
      ·have q1:(cell g N i j !=cell g N j i)=false:=(by simp[he]);have Hs3:=hid (show Zgq g N i (j+1)=true by rw[Hs2.out,he];simp);clear he Hs2;generalize cell g N i j=x at *;generalize cell g N j i=y at *;go_wp2;go_roundw;case rel=>exact ⟨hGj.trans hGb,j+1,by omega,by go_num,Hs3.out⟩
       case measure=>simp[intOf];omega
      ·have q1:(cell g N i j !=cell g N j i)=true:=(by simp[he]);have Hn:=hid (show Zbu m=false by rw[Hr.out];exact ZpZ hlt hltj he);clear he Hs2;generalize cell g N i j=x at *;generalize cell g N j i=y at *;go_wp2;go_ret;exact ⟨Zo Hn.out.symm,hGw.trans hGb⟩
     ·obtain rfl:j=i:=(by omega);have Hs3:=hid (show ZeJ g N (j+1)=true by rw[Hs1.out];exact hs);clear hs;go_wp2;go_roundw;case rel=>exact ⟨hGj,j+1,by omega,by go_num,Hs3.out⟩
      case measure=>simp[intOf];omega
   ·obtain rfl:i=N:=(by omega);have Hn:=hid (show Zbu m=true by rw[Hr.out];exact hs);clear hs;go_wp2_with fail;refine (ZaU (HV.out _ hG) hb).mono ?_;rintro e w2 ⟨rfl,hG2⟩;rw[Hm.out];go_wp2;go_ret;exact ⟨Zo Hn.out.symm,hG.trans hG2⟩
theorem Zp1 {l:List Int} {x:Int} (h:l[k]? =some x) (hx:x<=0):(l.all fun d=>decide (0<d))=false:=by
 rw[Bool.eq_false_iff];intro e;rw[List.all_eq_true] at e;have:=e x (List.mem_of_getElem? h);simp at this;omega
theorem ZgB (h:VM w S v m) (hb:bdM m<=1048576):
  Calls Tryz.prog 154 #[v] w fun e w'=>e= .returned (.bool (Zcm m))/\Grow w w':=by
 have hV:=h;obtain ⟨a,n,c,rfl,h,ir,ic⟩:=h;have hG1:=(Grow.refl w).alloc #[.int .i64 m.rows, .int .i64 m.cols, .slice a n c] 28;have bM:=Blk.new w #[.int .i64 m.rows, .int .i64 m.cols, .slice a n c] 28;go_enter Tryz.func154,Tryz.ntmps154;go_wp2_with fail;refine (Zpi (hV.grow hG1) hb).mono ?_;rintro e w2 ⟨xv,rfl,hX,hG2⟩;obtain ⟨xa,xn,xc,rfl,rX⟩:=hX.rd (S:=fun _=>True) fun _ _=>trivial;have hG:=hG1.trans hG2;have bM2:=bM.grow hG2;have vM:=hV.grow hG;have He:=hid (Zpg m);obtain ⟨ok,hok⟩: ∃ x,ZdP m=x:=⟨_,rfl⟩;obtain ⟨l,hl⟩: ∃ x,ldL m=x:=⟨_,rfl⟩;rw[hok,hl] at He;rw[hl] at rX;rw[hok];have hxl:=rX.len;have Hxl:=hid hxl;have hmax:xn<=9223372036854775807:=by have h2:=rX.row.max;have h3:=rX.row.le;simp only[maxLen] at h2;omega
 clear hok hl hX hV h hxl;go_wp2;go_loopw [5] (fun iv wr=>Grow w2 wr/\ ∃ k:Nat,k<=xn/\iv= .int .i64 k/\((l.take k).all fun d=>decide (0<d))=true) (fun i _=>xn-(intOf i).toNat);case atStart=>exact ⟨Grow.refl _,0,Nat.zero_le _,rfl,by simp⟩
 case round=>
  obtain ⟨hGr,k,hk,rfl,hq⟩:=hrel;by_cases hlt:k<xn
  ·obtain ⟨b1,o1,x,rfl,hxk,hxr,_,hb1,hc1⟩:=(rX.grow hGr).at hlt;have Hq:=hid (show ((l.take (k+1)).all fun d=>decide (0<d))=decide (0<x) by rw[Z8 hxk,List.all_append,hq];simp);by_cases h0:0<x
   ·clear hq hxk;go_wp2;go_roundw;case rel=>exact ⟨hGr,k+1,by omega,by go_num,by rw[Hq.out];simp[h0]⟩
    case measure=>simp[intOf];omega
   ·have Hn:=hid (show Zcm m=false by rw[He.out,Zp1 hxk (by omega)];simp);clear hq hxk;go_wp2;go_ret;exact ⟨Zo Hn.out.symm,hG.trans hGr⟩
  ·obtain rfl:k=xn:=(by omega);rw[ZaN Hxl.out] at hq;have Hr:=hid (show Zcm m=(ok&&Zbu m) by rw[He.out,hq];simp);clear hq;obtain ⟨⟨m0,m1,m2⟩, -⟩:=(bM2.grow hGr).three;have hltM:=(bM2.grow hGr).lt;cases ok with
   |false=>go_wp2;go_ret;exact ⟨Zo (by rw[Hr.out];rfl),hG.trans hGr⟩
   |true=>go_wp2_with fail;refine (ZmW (vM.grow hGr) hb).mono ?_;rintro e w3 ⟨rfl,hG3⟩;go_wp2;go_ret;exact ⟨Zo (by rw[Hr.out];rfl),(hG.trans hGr).trans hG3⟩

end Go.Proofs.YtgeoehnbpkediaaGreat
