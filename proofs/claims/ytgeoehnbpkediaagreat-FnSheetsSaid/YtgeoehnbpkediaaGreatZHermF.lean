/- The reference's numbers with marks: sums, products, quotients; cells; whether a mark is in a list. -/
import Derived.Test.YtgeoehnbpkediaaGreatZHerm
set_option maxHeartbeats 8000000
set_option maxRecDepth 100000
namespace Go.Proofs.YtgeoehnbpkediaaGreat
open Go.RowKit
open Lib (hid)
open Go.Value renaming int->Yv
open Go.IntKind renaming i64->Yi
variable {C R ca cu i j na nu:Nat} {S T:Nat->Prop} {a u:Option Addr} {d n:Int} {s:HS} {w w':World} {xs:List Int}
theorem ZiL (n:Int) (w:World):Calls Tryz.prog 144 #[Yv Yi n] w fun e w'=>e= .returned (Yv Yi (Zdz n))/\w=w':=by
 cases h:inB n (-400000000) 400000000 with
 |true=>have e:Zdz n=n:=ZdC h;have H:=hid h;have E:=hid e;clear h e;go_enter Tryz.func144,Tryz.ntmps144;go_wp2_with fail;refine (Zbg _ _ _ _).mono ?_;rintro e w' ⟨rfl,rfl⟩;rw[H.out];go_wp2;go_ret;exact ⟨by rw[E.out];rfl,rfl⟩
 |false=>have e:Zdz n=ZO:=Ze3 h;have H:=hid h;have E:=hid e;clear h e;go_enter Tryz.func144,Tryz.ntmps144;go_wp2_with fail;refine (Zbg _ _ _ _).mono ?_;rintro e w' ⟨rfl,rfl⟩;rw[H.out];go_wp2;go_ret;exact ⟨by rw[E.out];rfl,rfl⟩
theorem Zlz (a b:Int) (w:World) (ha:NumS a) (hb:NumS b):Calls Tryz.prog 175 #[Yv Yi a,Yv Yi b] w fun e w'=>e= .returned (Yv Yi (ZbO a b))/\w=w':=by
 by_cases h1:a= -4611686018427387904
 ·have E:=hid (show ZbO a b=ZO by unfold ZbO;rw[if_pos (.inl h1)]);subst h1;go_enter Tryz.func175,Tryz.ntmps175;go_wp2;go_ret;exact ⟨by rw[E.out];rfl,rfl⟩
 ·by_cases h2:b= -4611686018427387904
  ·have E:=hid (show ZbO a b=ZO by unfold ZbO;rw[if_pos (.inr h2)]);subst h2;go_enter Tryz.func175,Tryz.ntmps175;go_wp2;go_ret;exact ⟨by rw[E.out];rfl,rfl⟩
  ·have E:=hid (show ZbO a b=Zdz (a+b) by unfold ZbO;rw[if_neg (by rintro (h|h);exact h1 h;exact h2 h)]);have e1:(a== -4611686018427387904)=false:=(by simpa using h1);have e2:(b== -4611686018427387904)=false:=(by simpa using h2);have h3: -400000000<=a/\a<=400000000:=ha.resolve_right h1;have h4: -400000000<=b/\b<=400000000:=hb.resolve_right h2;go_enter Tryz.func175,Tryz.ntmps175;go_wp2_with fail;refine (ZiL _ _).mono ?_;rintro e w' ⟨rfl,rfl⟩;go_wp2;go_ret;exact ⟨by rw[E.out];rfl,rfl⟩
theorem ZiG (a b:Int) (w:World) (ha:NumS a) (hb:NumS b):Calls Tryz.prog 176 #[Yv Yi a,Yv Yi b] w fun e w'=>e= .returned (Yv Yi (Za0 a b))/\w=w':=by
 by_cases h1:a= -4611686018427387904
 ·have E:=hid (show Za0 a b=ZO by unfold Za0;rw[if_pos (.inl h1)]);subst h1;go_enter Tryz.func176,Tryz.ntmps176;go_wp2;go_ret;exact ⟨by rw[E.out];rfl,rfl⟩
 ·by_cases h2:b= -4611686018427387904
  ·have E:=hid (show Za0 a b=ZO by unfold Za0;rw[if_pos (.inr h2)]);subst h2;go_enter Tryz.func176,Tryz.ntmps176;go_wp2;go_ret;exact ⟨by rw[E.out];rfl,rfl⟩
  ·have E:=hid (show Za0 a b=Zdz (a*b) by unfold Za0;rw[if_neg (by rintro (h|h);exact h1 h;exact h2 h)]);have e1:(a== -4611686018427387904)=false:=(by simpa using h1);have e2:(b== -4611686018427387904)=false:=(by simpa using h2);have h3: -400000000<=a/\a<=400000000:=ha.resolve_right h1;have h4: -400000000<=b/\b<=400000000:=hb.resolve_right h2;have h5:=ZfP h3 h4;have u:IntKind.i64.wrap (a*b)=a*b:=IntWalk.i64_in _ (by omega);have u2:wrap64 (a*b)=a*b:=(by unfold wrap64;omega);clear h5;go_enter Tryz.func176,Tryz.ntmps176;go_wp2_with fail;refine (ZiL _ _).mono ?_;rintro e w' ⟨rfl,rfl⟩;go_wp2;go_ret;exact ⟨by rw[E.out];rfl,rfl⟩
theorem ZdD (a:Int) (w:World) (h: -9223372036854775807<=a/\a<=9223372036854775807):Calls Tryz.prog 172 #[Yv Yi a] w fun e w'=>e= .returned (Yv Yi (a.natAbs:Int))/\w=w':=by
 go_enter Tryz.func172,Tryz.ntmps172;go_wp2;all_goals (go_ret;exact ⟨ZU (by omega),rfl⟩)
def ZbP (xs:List Int):Bool:=xs.any fun x=>x==ZO
theorem ZaZ:ZbP xs=true↔ZO∈xs:=by unfold ZbP;simp
theorem ZR (a:Option Addr) (n cap:Nat) (xs:List Int) (w:World) (h:RdI w S a n cap xs) (hn:n<=2097152):
  Calls Tryz.prog 150 #[.slice a n cap] w fun e w'=>e= .returned (.bool (ZbP xs))/\Qt w w':=by
 have hl:=h.len;go_enter Tryz.func150,Tryz.ntmps150;go_wp2;go_loopw [3] (fun i wr=>Qt w wr/\ ∃ k:Nat,k<=n/\i=Yv Yi k/\ ∀ x∈xs.take k,x≠ZO) (fun i _=>n-(intOf i).toNat);case atStart=>exact ⟨Qt.refl _,0,Nat.zero_le _,rfl,by simp⟩
 case round=>
  obtain ⟨hG,k,hk,rfl,hall⟩:=hrel;have Hall:=hid hall;clear hall;by_cases hlt:k<n
  ·obtain ⟨b1,off1,x,rfl,hx,hxr,_,hbw,hc⟩:=(h.grow hG.grow).at hlt;have Hx:=hid hx;clear hx;by_cases hb:x= -4611686018427387904
   ·have E:=hid (ZaZ.2 (by rw[show ZO=x from hb.symm];exact List.mem_of_getElem? Hx.out));subst hb;go_wp2;go_ret;exact ⟨by rw[E.out];rfl,hG⟩
   ·go_wp2;go_roundw;case rel=>
     refine ⟨hG,k+1,by omega,by go_num,fun z hz=> ?_⟩;rw[Z8 Hx.out,List.mem_append,List.mem_singleton] at hz;rcases hz with hz|rfl
     ·exact Hall.out z hz
     ·exact hb
    case measure=>simp[intOf];omega
  ·have E:=hid (show ZbP xs=false by
    rw[Bool.eq_false_iff];intro e;have:=ZaZ.1 e;rw[←ZaN (l:=xs) (n:=k) (by omega)] at this;exact Hall.out _ this rfl)
   go_wp2;go_ret;exact ⟨by rw[E.out];rfl,hG⟩
theorem Zh5 (hd:d≠0) (h:n.tmod d<0):n.tdiv d=n/d+d.sign/\n.tmod d+d.natAbs=n%d:=by
 have h1:=Int.tdiv_eq_ediv (a:=n) (b:=d);have h2:=Int.tmod_eq_emod (a:=n) (b:=d);have h3:=Int.emod_nonneg n hd;by_cases hc:0<=n\/d∣n
 ·rw[if_pos hc] at h2;omega
 ·rw[if_neg hc] at h1 h2;omega
theorem ZhV (hd:d≠0) (h:0<=n.tmod d):n.tdiv d=n/d/\n.tmod d=n%d:=by
 have h1:=Int.tdiv_eq_ediv (a:=n) (b:=d);have h2:=Int.tmod_eq_emod (a:=n) (b:=d);have h3:=Int.emod_lt n hd;by_cases hc:0<=n\/d∣n
 ·rw[if_pos hc] at h1 h2;omega
 ·rw[if_neg hc] at h2;omega
theorem ZmY (hd:d≠0):(n-n%d).tdiv d=n/d:=by
 have h:n-n%d=d*(n/d):=by have:=Int.emod_def n d;omega
 rw[h,Int.mul_tdiv_cancel_left _ hd]
theorem Zpp:n/d= -(n/ -d):=by rw[Int.ediv_neg];omega
theorem Zm7 (n d:Int) (w:World) (hn: -400000000<=n/\n<=400000000) (hd:0<d/\d<=400000000):Calls Tryz.prog 173 #[Yv Yi n,Yv Yi d] w fun e w'=>e= .returned (Yv Yi (n/d))/\w=w':=by
 have hq:=Zd2 (n:=n) (d:=d) hn (by omega);by_cases h:n.tmod d<0
 ·have h1:=(Zh5 (by omega) h).1;rw[Int.sign_eq_one_of_pos hd.1] at h1;have H:=hid h1;clear h1;go_enter Tryz.func173,Tryz.ntmps173;go_wp2;go_ret;refine ⟨ZU ?_,rfl⟩;rw[H.out];unfold wrap64;omega
 ·have h1:=(ZhV (n:=n) (d:=d) (by omega) (by omega)).1;have H:=hid h1;clear h1;go_enter Tryz.func173,Tryz.ntmps173;go_wp2;go_ret;exact ⟨ZU H.out,rfl⟩
theorem Zc5 (n d:Int) (w:World):Calls Tryz.prog 148 #[Yv Yi n,Yv Yi d] w fun e w'=> ∃ q r b,e= .returned (.tuple #[Yv Yi q,Yv Yi r, .bool b])/\(-400000000<=q/\q<=400000000)/\(Zq n=true->Zq d=true->d≠0->q=n/d)/\w=w':=by
 cases hn:Zq n with
 |false=>
  have H:=hid hn;clear hn;go_enter Tryz.func148,Tryz.ntmps148;go_wp2_with fail;refine (Zaz _ _).mono ?_;rintro e w' ⟨rfl,rfl⟩;rw[H.out];go_wp2
  go_ret3
  exact ⟨_,_,_,rfl,by omega,(fun h=>by cases h),rfl⟩
 |true=>
  have hnr:=ZT.1 hn;cases hd:Zq d with
  |false=>
   have H:=hid hn;have H2:=hid hd;clear hn hd;go_enter Tryz.func148,Tryz.ntmps148;go_wp2_with fail;refine (Zaz _ _).mono ?_;rintro e w' ⟨rfl,rfl⟩;rw[H.out];go_wp2_with fail;refine (Zaz _ _).mono ?_;rintro e w' ⟨rfl,rfl⟩;rw[H2.out];go_wp2
   go_ret3
   exact ⟨_,_,_,rfl,by omega,(fun _ h=>by cases h),rfl⟩
  |true=>
   have hdr:=ZT.1 hd;have H:=hid hn;have H2:=hid hd;clear hn hd;by_cases h0:d=0
   ·subst h0;go_enter Tryz.func148,Tryz.ntmps148;go_wp2_with fail;refine (Zaz _ _).mono ?_;rintro e w' ⟨rfl,rfl⟩;rw[H.out];go_wp2_with fail;refine (Zaz _ _).mono ?_;rintro e w' ⟨rfl,rfl⟩;rw[H2.out];go_wp2
    go_ret3
    exact ⟨_,_,_,rfl,by omega,(fun _ _ h=>(h rfl).elim),rfl⟩
   ·have e0:(d==0)=false:=(by simpa using h0);have hq:=Zd2 (n:=n) (d:=(d.natAbs:Int)) hnr (by omega);go_enter Tryz.func148,Tryz.ntmps148;go_wp2_with fail;refine (Zaz _ _).mono ?_;rintro e w' ⟨rfl,rfl⟩;rw[H.out];go_wp2_with fail;refine (Zaz _ _).mono ?_;rintro e w' ⟨rfl,rfl⟩;rw[H2.out];go_wp2_with fail;refine (ZdD _ _ (by omega)).mono ?_;rintro e w' ⟨rfl,rfl⟩;go_wp2_with fail;refine (Zm7 _ _ _ hnr (by omega)).mono ?_;rintro e w' ⟨rfl,rfl⟩;by_cases hneg:d<0
    ·have hE:=hid (show n/d= -(n/(d.natAbs:Int)) by rw[show (d.natAbs:Int)= -d by omega];exact Zpp);generalize n/(d.natAbs:Int)=q at *;go_wp2_with fail;refine (ZdD _ _ (by omega)).mono ?_;rintro e w' ⟨rfl,rfl⟩;go_wp2
     go_ret3
     exact ⟨_,_,_,rfl,by omega,(fun _ _ _=>hE.out.symm),rfl⟩
    ·have hE:=hid (show n/d=n/(d.natAbs:Int) by rw[show (d.natAbs:Int)=d by omega]);generalize n/(d.natAbs:Int)=q at *;go_wp2
     go_ret3
     exact ⟨_,_,_,rfl,by omega,(fun _ _ _=>hE.out.symm),rfl⟩
theorem ZnR {a b c:Int} (h1:a=b) (h2:c=d):Ending.returned (.tuple #[Yv Yi a,Yv Yi c, .bool true])= .returned (.tuple #[Yv Yi b,Yv Yi d, .bool true]):=by rw[h1,h2]
theorem Zd5 (a:Int) (w:World) (h: -9223372036854775807<=a/\a<=9223372036854775807):Calls Tryz.prog 133 #[Yv Yi a] w fun e w'=>e= .returned (Yv Yi (a.natAbs:Int))/\w=w':=by
 go_enter Tryz.func133,Tryz.ntmps133;go_wp2;all_goals (go_ret;exact ⟨ZU (by omega),rfl⟩)
theorem Zc8 (n d:Int) (w:World) (hn: -400000000<=n/\n<=400000000) (hd: -400000000<=d/\d<=400000000) (h0:d≠0):Calls Tryz.prog 110 #[Yv Yi n,Yv Yi d] w fun e w'=>e= .returned (.tuple #[Yv Yi (n/d),Yv Yi (n%d), .bool true])/\w=w':=by
 have H:=hid (ZT.2 hn);have H2:=hid (ZT.2 hd);have e0:(d==0)=false:=by simpa using h0
 have hq:=Zd2 (n:=n) (d:=d) hn h0;have hm1:=Int.emod_nonneg n h0;have hm2:=Int.emod_lt n h0;have HQ:=hid (ZmY (n:=n) h0);by_cases h:n.tmod d<0
 ·have h1:=(Zh5 h0 h).2;go_enter Tryz.func110,Tryz.ntmps110;go_wp2_with fail;refine (Zas _ _).mono ?_;rintro e w' ⟨rfl,rfl⟩;rw[H.out];go_wp2_with fail;refine (Zas _ _).mono ?_;rintro e w' ⟨rfl,rfl⟩;rw[H2.out];go_wp2_with fail;refine (Zd5 _ _ (by omega)).mono ?_;rintro e w' ⟨rfl,rfl⟩;have H1:=hid h1;clear h1;go_wp2
  go_ret3
  have k1:wrap64 (n.tmod d+ ↑d.natAbs)=n%d:=by rw[H1.out];unfold wrap64;omega
  have k2:wrap64 (n-n%d)=n-n%d:=by unfold wrap64;omega
  have k3:wrap64 (n/d)=n/d:=by unfold wrap64;omega
  exact ⟨ZnR (by first |rw[k1,k2,HQ.out,k3]|rw[H1.out,k2,HQ.out,k3]) (by first |exact k1|exact H1.out),rfl⟩
 ·have h1:=(ZhV (n:=n) (d:=d) h0 (by omega)).2;have H1:=hid h1;clear h1;go_enter Tryz.func110,Tryz.ntmps110;go_wp2_with fail;refine (Zas _ _).mono ?_;rintro e w' ⟨rfl,rfl⟩;rw[H.out];go_wp2_with fail;refine (Zas _ _).mono ?_;rintro e w' ⟨rfl,rfl⟩;rw[H2.out];go_wp2
  go_ret3
  have k2:wrap64 (n-n%d)=n-n%d:=by unfold wrap64;omega
  have k3:wrap64 (n/d)=n/d:=by unfold wrap64;omega
  exact ⟨ZnR (by rw[H1.out,k2,HQ.out,k3]) H1.out,rfl⟩
theorem ZaH {x:Int} (hj:j<xs.length) (hx:xs.getD j 0=x):(ints xs)[j]? =some (Yv Yi x):=by
 rw[List.getElem?_map,List.getElem?_eq_getElem hj];simp[List.getD,List.getElem?_eq_getElem hj] at hx;rw[←hx];rfl
theorem Keep.on {a b c:World} (h:Keep S a b) (k:Keep T b c) (hT: ∀ i,i<a.heap.size->S i->T i):Keep S a c:=
 ⟨k.os.trans h.os, k.tape.trans h.tape, k.output.trans h.output, Nat.le_trans h.size k.size, fun x hx => (k.frozen x (Nat.lt_of_lt_of_le hx h.size)).trans (h.frozen x hx),
  fun i hi hs=>(k.block i (Nat.lt_of_lt_of_le hi h.size) (hT i hi hs)).trans (h.block i hi hs)⟩
theorem ZK (a:Option Addr) (n cp C i j:Nat) (R:Int) (cells:List Int) (w:World) (h:RdI w S a n cp cells) (hlt:i*C+j<n) (hi:i<=1048576) (hC:C<=1048576) (hj:j<=1048576):
  Calls Tryz.prog 147 #[.agg #[Yv Yi R,Yv Yi C, .slice a n cp],Yv Yi i,Yv Yi j] w fun e w'=>e= .returned (Yv Yi (cell cells C i j))/\Grow w w':=by
 have hl:=h.len;have hG:Grow w (w.alloc (.cells #[Yv Yi R,Yv Yi C, .slice a n cp] 28)):=(Grow.refl w).alloc _ _;obtain ⟨b,off,y,rfl,hy,hr,_,hb,hc⟩:=(h.grow hG).at hlt;have hx:cell cells C i j=y:=getD_at hy;rw[hx];clear hy hx;have u1:=Zaf (i:=i) (c:=C) hi hC;have u2:=ZaI (i:=i) (c:=C) (j:=j) hi hC hj rfl;obtain ⟨x,hx⟩: ∃ x,x=i*C+j:=⟨_,rfl⟩;rw[←hx] at hc u2 hlt;clear hx;go_enter Tryz.func147,Tryz.ntmps147;go_wp2;go_ret;exact ⟨rfl,hG⟩
theorem ZlB (a:Option Addr) (n cp C i p:Nat) (R t:Int) (m:List Int) (w:World) (h:Own w 3 1 a n cp (ints m)) (hi:i*C+C<=n) (hp:p*C+C<=n) (hip:i≠p) (hm:NumBL m) (ht:NumS t) (hn:n<=1048576) (hi2:i<=1048576) (hp2:p<=1048576) (hC2:C<=1048576):
  Calls Tryz.prog 174 #[.agg #[Yv Yi R,Yv Yi C, .slice a n cp], .agg #[Yv Yi 2,Yv Yi i,Yv Yi p,Yv Yi t]] w fun e w'=>e= .returned (.tuple #[])/\Own w' 3 1 a n cp (ints (Za5 m C i p t))/\Keep (fun q=>blk a≠some q) w w':=by
 obtain ⟨kd,hkd⟩: ∃ kd:Int,kd=2:=⟨_,rfl⟩;rw[←hkd];have hl:m.length=n:=by simpa using h.len
 have hG2:Grow w ((w.alloc (.cells #[Yv Yi R,Yv Yi (C:Int), .slice a n cp] 28)).alloc (.cells #[Yv Yi kd,Yv Yi (i:Int),Yv Yi (p:Int),Yv Yi t] 131)):=((Grow.refl w).alloc _ _).alloc _ _;obtain ⟨w2,hw2, -,bM,bX, -⟩:=al2 w #[Yv Yi R,Yv Yi (C:Int), .slice a n cp] 28 #[Yv Yi kd,Yv Yi (i:Int),Yv Yi (p:Int),Yv Yi t] 131;have hO0:Own w2 3 1 a n cp (ints m):=by rw[hw2];exact h.grow hG2
 rw[←hw2] at hG2;have nM:blk a≠some w.heap.size:=fun e=>by have:=h.lt e;omega
 have nX:blk a≠some (w.heap.size+1):=fun e=>by have:=h.lt e;omega
 have Hw2:=hid hw2;clear hw2;clear h;subst hkd;go_enter Tryz.func174,Tryz.ntmps174;go_wp2;rw[←Hw2.out];go_loopw [4] (fun q wr=>Keep (fun q=>blk a≠some q) w2 wr/\ ∃ k:Nat,k<=C/\q=Yv Yi k/\Own wr 3 1 a n cp (ints (ZY (Zck m C i p t) (i*C) k m))) (fun q _=>C-(intOf q).toNat);case atStart=>exact ⟨Keep.refl _ _,0,Nat.zero_le _,rfl,hO0⟩
 case round=>
  clear hO0;obtain ⟨hK,k,hk,rfl,hO⟩:=hrel;have bMr:=bM.keep hK nM;obtain ⟨⟨a0,a1,a2⟩, -⟩:=bMr.three;by_cases hlt:k<C
  ·have bXr:=bX.keep hK nX;have x0:=bXr.cell 0;have x1:=bXr.cell 1;have x2:=bXr.cell 2;have x3:=bXr.cell 3;simp only[List.getElem?_toArray,List.getElem?_cons_zero,List.getElem?_cons_succ] at x0 x1 x2 x3;have hlen:(ZY (Zck m C i p t) (i*C) k m).length=n:=(by rw[Z6,hl]);have hg1:(ZY (Zck m C i p t) (i*C) k m).getD (i*C+k) 0=cell m C i k:=(by rw[Zbc (by omega),if_neg (by omega)];rfl);have hg2:(ZY (Zck m C i p t) (i*C) k m).getD (p*C+k) 0=cell m C p k:=(by rw[Zbc (by omega),if_neg];rfl;rintro ⟨h1,h2⟩;have:=Zch (i:=i) (i':=p) (j:=p*C+k-i*C) (j':=k) (C:=C) (by omega) hlt (by omega);exact hip this.1);obtain ⟨pb,rfl⟩: ∃ pb,a=some ⟨pb,0,none⟩:=by
    cases a with
    |none=>have:=hO.nil rfl;have:=hO.le;omega
    |some q=>exact ⟨q.block,by rw[←(hO.block q rfl).1]⟩
   have hc1:=hO.cell (ZaH (by omega) hg1);have hc2:=hO.cell (ZaH (by omega) hg2);have hfr:=hO.free (i*C+k);have hpb:=hO.lt (g:=pb) rfl;have hsA:=hm.getD (i*C+k);have hsB:=hm.getD (p*C+k);have u1:=Zaf (i:=i) (c:=C) hi2 hC2;have u2:=ZaI (i:=i) (c:=C) (j:=k) hi2 hC2 (by omega) rfl;have u3:=Zaf (i:=p) (c:=C) hp2 hC2;have u4:=ZaI (i:=p) (c:=C) (j:=k) hp2 hC2 (by omega) rfl;have hle:=hO.le;change NumS (cell m C i k) at hsA;change NumS (cell m C p k) at hsB;have Hv:=hid (show Zck m C i p t k=ZbO (cell m C i k) (Za0 (cell m C p k) t) from rfl);have hO9:=(hO.set (i*C+k) (Yv Yi (Zck m C i p t k))).grow (Grow.refl _).drew;rw[←ints_set] at hO9;clear hO hg1 hg2 hlen;generalize cell m C i k=ca at *;generalize cell m C p k=cb at *;generalize hix:i*C+k=ix at *;generalize hiy:p*C+k=iy at *;have hlx:ix<n:=(by omega);have hly:iy<n:=(by omega);have Hix:=hid hix;clear hix hiy;simp only at hc1 hc2 hfr hO9;go_wp2;refine Zdl (S:=(Keep (fun q=>blk (some (⟨pb,0,none⟩:Addr))≠some q) wr)) [0,1,2,3,4,5,6,7,8,9,10,11,12] [13,14,15,16] Zm (by kernel_rfl) (fun _ _ _ _ _ h=>h) (Keep.refl _ _).drew ?_;show wpQuiet _ _ _ (fun a'=>ZaS _ _ _ _ [_,_,_,_] a' _) [_,_,_,_,_,_,_,_,_,_,_,_,_] _;(repeat (first |go_big_quiet_skip|(go_big_quiet_want;first |(apply Za ZaC;rfl;rfl;exact (fun w' hG=>hG.cell nM a2);go_big_quiet_on;simp only[putP])|(apply Za ZM;rfl;rfl;exact (fun w' hG=>hG.cell nX x1);go_big_quiet_on;simp only[putP])|(apply Za ZM;rfl;rfl;exact (fun w' hG=>hG.cell nM a1);go_big_quiet_on;simp only[putP])|(apply Za ZM;rfl;rfl;exact (fun w' hG=>hG.cell nX x3);go_big_quiet_on;simp only[putP])|(go_big_quiet_op;first |go_big_quiet_on|(refine ⟨_,(fun _ _=>rfl), ?_⟩;go_big_quiet_on)))));refine wpQuiet_nil ?_;show ZaS _ _ _ _ _ _ _;refine Z5 rfl (fun K hK=> ?_);go_wp2_with fail;refine (ZiG cb t _ hsB ht).mono ?_;rintro e _ ⟨rfl,rfl⟩;go_wp2_with fail;refine hK _ _ ((Keep.refl _ _).drew) ?_;clear hK K;refine Z5 rfl (fun K hK=> ?_);go_wp2_with fail;refine (Zlz ca (Za0 cb t) _ hsA (ZnT _ _)).mono ?_;rintro e _ ⟨rfl,rfl⟩;rw[←Hv.out];go_wp2_with fail;refine hK _ _ ((Keep.refl _ _).drew) ?_;clear hK K;refine Z5 rfl (fun K hK=> ?_);go_wp2_with fail;refine hK _ _ ((Keep.refl _ _).drew) ?_;clear hK K;refine Z5 rfl (fun K hK=> ?_);go_wp2_with fail;have hKs:Keep (fun q=>blk (some (⟨pb,0,none⟩:Addr))≠some q) wr (wr.setCell ⟨pb,ix,none⟩ (Yv Yi (Zck m C i p t k))).drew:=((Keep.refl _ wr).setCell (p:=⟨pb,ix,none⟩) (fun _ e=>e rfl) _).drew;refine hK _ _ (hKs) ?_;clear hK K;refine Zet ?_;go_wp2;go_roundw;case rel=>exact ⟨hK.trans hKs,k+1,by omega,by go_num,by rw[show ZY (Zck m C i p t) (i*C) (k+1) m=(ZY (Zck m C i p t) (i*C) k m).set ix (Zck m C i p t k) by rw[←Hix.out];rfl];exact hO9⟩
   case measure=>simp[intOf];omega
  ·have hkC:k=C:=(by omega);subst hkC;go_wp2;exact bodyPost_end (results_none rfl _ _ _) rfl ⟨rfl,hO,(hG2.any).on hK (fun q hq hne=>hne)⟩
theorem ZlG (a:Option Addr) (n cp C i:Nat) (R t:Int) (m:List Int) (w:World) (h:Own w 3 1 a n cp (ints m)) (hi:i*C+C<=n) (hm:NumL m) (hn:n<=1048576) (hi2:i<=1048576) (hC2:C<=1048576):
  Calls Tryz.prog 174 #[.agg #[Yv Yi R,Yv Yi C, .slice a n cp],(.agg #[Yv Yi 1,Yv Yi i,Yv Yi i,Yv Yi t])] w fun e w'=>e= .returned (.tuple #[])/\Own w' 3 1 a n cp (ints (Zdf m C i))/\Keep (fun q=>blk a≠some q) w w':=by
 obtain ⟨kd,hkd⟩: ∃ kd:Int,kd=1:=⟨_,rfl⟩;rw[←hkd];have hl:m.length=n:=by simpa using h.len
 have hG2:Grow w ((w.alloc (.cells #[Yv Yi R,Yv Yi (C:Int), .slice a n cp] 28)).alloc (.cells #[Yv Yi kd,Yv Yi (i:Int),Yv Yi (i:Int),Yv Yi t] 131)):=((Grow.refl w).alloc _ _).alloc _ _;obtain ⟨w2,hw2, -,bM,bX, -⟩:=al2 w #[Yv Yi R,Yv Yi (C:Int), .slice a n cp] 28 #[Yv Yi kd,Yv Yi (i:Int),Yv Yi (i:Int),Yv Yi t] 131;have hO0:Own w2 3 1 a n cp (ints m):=by rw[hw2];exact h.grow hG2
 rw[←hw2] at hG2;have nM:blk a≠some w.heap.size:=fun e=>by have:=h.lt e;omega
 have nX:blk a≠some (w.heap.size+1):=fun e=>by have:=h.lt e;omega
 have Hw2:=hid hw2;clear hw2;clear h;subst hkd;go_enter Tryz.func174,Tryz.ntmps174;go_wp2;rw[←Hw2.out];go_loopw [4] (fun q wr=>Keep (fun q=>blk a≠some q) w2 wr/\ ∃ k:Nat,k<=C/\q=Yv Yi k/\Own wr 3 1 a n cp (ints (ZY (fun k=> -cell m C i k) (i*C) k m))) (fun q _=>C-(intOf q).toNat);case atStart=>exact ⟨Keep.refl _ _,0,Nat.zero_le _,rfl,hO0⟩
 case round=>
  clear hO0;obtain ⟨hK,k,hk,rfl,hO⟩:=hrel;have bMr:=bM.keep hK nM;obtain ⟨⟨a0,a1,a2⟩, -⟩:=bMr.three;by_cases hlt:k<C
  ·have bXr:=bX.keep hK nX;have x0:=bXr.cell 0;have x1:=bXr.cell 1;have x2:=bXr.cell 2;have x3:=bXr.cell 3;simp only[List.getElem?_toArray,List.getElem?_cons_zero,List.getElem?_cons_succ] at x0 x1 x2 x3;have hlen:(ZY (fun k=> -cell m C i k) (i*C) k m).length=n:=(by rw[Z6,hl]);have hg1:(ZY (fun k=> -cell m C i k) (i*C) k m).getD (i*C+k) 0=cell m C i k:=(by rw[Zbc (by omega),if_neg (by omega)];rfl);obtain ⟨pb,rfl⟩: ∃ pb,a=some ⟨pb,0,none⟩:=by
    cases a with
    |none=>have:=hO.nil rfl;have:=hO.le;omega
    |some q=>exact ⟨q.block,by rw[←(hO.block q rfl).1]⟩
   have hc1:=hO.cell (ZaH (by omega) hg1);have hfr:=hO.free (i*C+k);have hpb:=hO.lt (g:=pb) rfl;have hsA:=hm.getD (i*C+k);have u1:=Zaf (i:=i) (c:=C) hi2 hC2;have u2:=ZaI (i:=i) (c:=C) (j:=k) hi2 hC2 (by omega) rfl;have hle:=hO.le;change -400000000<=cell m C i k/\cell m C i k<=400000000 at hsA;have Hv:=hid (show Za0 (cell m C i k) (-1)= -cell m C i k by unfold Za0;rw[if_neg (by rintro (e|e);exact ZaM hsA e;exact ZaM (by omega) e),ZdC (ZT.2 (by omega))];omega);have Hu:=hid (show ZY (fun k=> -cell m C i k) (i*C) (k+1) m=(ZY (fun k=> -cell m C i k) (i*C) k m).set (i*C+k) (-cell m C i k) from rfl);have hO9:=(hO.set (i*C+k) (Yv Yi (-cell m C i k))).grow (Grow.refl _).drew;rw[←ints_set] at hO9;clear hO hg1 hlen;have Hcc:=hid (rfl:cell m C i k=cell m C i k);generalize hca:cell m C i k=ca at hc1 hsA hO9 Hv Hu;clear hca Hcc;generalize hix:i*C+k=ix at *;have hlx:ix<n:=(by omega);have Hix:=hid hix;clear hix;simp only at hc1 hfr hO9;go_wp2;refine Zdl (S:=(Keep (fun q=>blk (some (⟨pb,0,none⟩:Addr))≠some q) wr)) [0,1,2,3,4,5,6,7,8,9] [10,11,12] Zm (by kernel_rfl) (fun _ _ _ _ _ h=>h) (Keep.refl _ _).drew ?_;show wpQuiet _ _ _ (fun a'=>ZaS _ _ _ _ [_,_,_] a' _) [_,_,_,_,_,_,_,_,_,_] _;(repeat (first |go_big_quiet_skip|(go_big_quiet_want;first |(apply Za ZaC;rfl;rfl;exact (fun w' hG=>hG.cell nM a2);go_big_quiet_on;simp only[putP])|(apply Za ZM;rfl;rfl;exact (fun w' hG=>hG.cell nX x1);go_big_quiet_on;simp only[putP])|(apply Za ZM;rfl;rfl;exact (fun w' hG=>hG.cell nM a1);go_big_quiet_on;simp only[putP])|(go_big_quiet_op;first |go_big_quiet_on|(refine ⟨_,(fun _ _=>rfl), ?_⟩;go_big_quiet_on)))));refine wpQuiet_nil ?_;show ZaS _ _ _ _ _ _ _;refine Z5 rfl (fun K hK=> ?_);go_wp2_with fail;refine (ZiG ca (-1) _ (.inl hsA) (.inl (by omega))).mono ?_;rintro e _ ⟨rfl,rfl⟩;rw[Hv.out];go_wp2_with fail;refine hK _ _ ((Keep.refl _ _).drew) ?_;clear hK K;refine Z5 rfl (fun K hK=> ?_);go_wp2_with fail;refine hK _ _ ((Keep.refl _ _).drew) ?_;clear hK K;refine Z5 rfl (fun K hK=> ?_);go_wp2_with fail;have hKs:Keep (fun q=>blk (some (⟨pb,0,none⟩:Addr))≠some q) wr (wr.setCell ⟨pb,ix,none⟩ (Yv Yi (-ca))).drew:=((Keep.refl _ wr).setCell (p:=⟨pb,ix,none⟩) (fun _ e=>e rfl) _).drew;refine hK _ _ (hKs) ?_;clear hK K;refine Zet ?_;go_wp2;go_roundw;case rel=>exact ⟨hK.trans hKs,k+1,by omega,by go_num,by rw[Hu.out];exact hO9⟩
   case measure=>simp[intOf];omega
  ·have hkC:k=C:=(by omega);subst hkC;go_wp2;exact bodyPost_end (results_none rfl _ _ _) rfl ⟨rfl,hO,(hG2.any).on hK (fun q hq hne=>hne)⟩
theorem Zlb (a:Option Addr) (n cp C i p R:Nat) (t:Int) (m:List Int) (w:World) (h:Own w 3 1 a n cp (ints m)) (hmR:m.length=R*C) (hiR:i<R) (hpR:p<R) (hip:i≠p) (hm:NumL m) (hn:n<=1048576) (hi2:i<=1048576) (hp2:p<=1048576) (hC2:C<=1048576):
  Calls Tryz.prog 174 #[.agg #[Yv Yi (R:Int),Yv Yi C, .slice a n cp], .agg #[Yv Yi 0,Yv Yi i,Yv Yi p,Yv Yi t]] w fun e w'=>e= .returned (.tuple #[])/\Own w' 3 1 a n cp (ints (swR m C i p))/\Keep (fun q=>blk a≠some q) w w':=by
 have hi:=Zdj hmR hiR;have hp:=Zdj hmR hpR;rw[show m.length=n by simpa using h.len] at hi hp;obtain ⟨kd,hkd⟩: ∃ kd:Int,kd=0:=⟨_,rfl⟩;rw[←hkd];have hl:m.length=n:=by simpa using h.len
 have hG2:Grow w ((w.alloc (.cells #[Yv Yi R,Yv Yi (C:Int), .slice a n cp] 28)).alloc (.cells #[Yv Yi kd,Yv Yi (i:Int),Yv Yi (p:Int),Yv Yi t] 131)):=((Grow.refl w).alloc _ _).alloc _ _;obtain ⟨w2,hw2, -,bM,bX, -⟩:=al2 w #[Yv Yi R,Yv Yi (C:Int), .slice a n cp] 28 #[Yv Yi kd,Yv Yi (i:Int),Yv Yi (p:Int),Yv Yi t] 131;have hO0:Own w2 3 1 a n cp (ints m):=by rw[hw2];exact h.grow hG2
 rw[←hw2] at hG2;have nM:blk a≠some w.heap.size:=fun e=>by have:=h.lt e;omega
 have nX:blk a≠some (w.heap.size+1):=fun e=>by have:=h.lt e;omega
 have Hw2:=hid hw2;clear hw2;clear h;subst hkd;go_enter Tryz.func174,Tryz.ntmps174;go_wp2;rw[←Hw2.out];go_loopw [4] (fun q wr=>Keep (fun q=>blk a≠some q) w2 wr/\ ∃ k:Nat,k<=C/\q=Yv Yi k/\Own wr 3 1 a n cp (ints (swN m C i p k))) (fun q _=>C-(intOf q).toNat);case atStart=>exact ⟨Keep.refl _ _,0,Nat.zero_le _,rfl,hO0⟩
 case round=>
  clear hO0;obtain ⟨hK,k,hk,rfl,hO⟩:=hrel;have bMr:=bM.keep hK nM;obtain ⟨⟨a0,a1,a2⟩, -⟩:=bMr.three;by_cases hlt:k<C
  ·have bXr:=bX.keep hK nX;have x0:=bXr.cell 0;have x1:=bXr.cell 1;have x2:=bXr.cell 2;have x3:=bXr.cell 3;simp only[List.getElem?_toArray,List.getElem?_cons_zero,List.getElem?_cons_succ] at x0 x1 x2 x3;have hlen:(swN m C i p k).length=n:=(by rw[ZbY,hl]);have hg1:(swN m C i p k).getD (i*C+k) 0=cell m C i k:=(by rw[ZdZ hmR hiR hpR hip k (by omega) i k hlt,if_neg (by omega),if_neg (by omega)]);have hg2:(swN m C i p k).getD (p*C+k) 0=cell m C p k:=(by rw[ZdZ hmR hiR hpR hip k (by omega) p k hlt,if_neg (by omega),if_neg (by omega)]);obtain ⟨pb,rfl⟩: ∃ pb,a=some ⟨pb,0,none⟩:=by
    cases a with
    |none=>have:=hO.nil rfl;have:=hO.le;omega
    |some q=>exact ⟨q.block,by rw[←(hO.block q rfl).1]⟩
   have hc1:=hO.cell (ZaH (by omega) hg1);have hc2:=hO.cell (ZaH (by omega) hg2);have hfr:=hO.free (i*C+k);have hpb:=hO.lt (g:=pb) rfl;have hsA:=hm.getD (i*C+k);have hsB:=hm.getD (p*C+k);have u1:=Zaf (i:=i) (c:=C) hi2 hC2;have u2:=ZaI (i:=i) (c:=C) (j:=k) hi2 hC2 (by omega) rfl;have u3:=Zaf (i:=p) (c:=C) hp2 hC2;have u4:=ZaI (i:=p) (c:=C) (j:=k) hp2 hC2 (by omega) rfl;have hle:=hO.le;change -400000000<=cell m C i k/\cell m C i k<=400000000 at hsA;change -400000000<=cell m C p k/\cell m C p k<=400000000 at hsB;have hcx:i*C+k≠p*C+k:=fun e=>hip (Zch hlt hlt e).1;have hO9:=((hO.set (i*C+k) (Yv Yi (cell m C p k))).set (p*C+k) (Yv Yi (cell m C i k)));rw[←ints_set, ←ints_set] at hO9;have Hu:=hid (show swN m C i p (k+1)=((swN m C i p k).set (i*C+k) (cell m C p k)).set (p*C+k) (cell m C i k) from rfl);have hfr2:=hO.free (p*C+k);clear hO hg1 hg2 hlen;generalize cell m C i k=ca at hc1 hsA hO9 Hu;generalize cell m C p k=cb at hc2 hsB hO9 Hu;generalize hix:i*C+k=ix at *;generalize hiy:p*C+k=iy at *;have hlx:ix<n:=(by omega);have hly:iy<n:=(by omega);clear hix hiy;simp only at hc1 hc2 hfr hfr2 hO9;have n1:pb≠w.heap.size:=fun e=>nM (by rw[e];rfl);have n2:pb≠w.heap.size+1:=fun e=>nX (by rw[e];rfl);have n3:=Ne.symm n1;have n4:=Ne.symm n2;go_wp2;have hKs:Keep (fun q=>blk (some (⟨pb,0,none⟩:Addr))≠some q) wr ((wr.setCell ⟨pb,ix,none⟩ (Yv Yi cb)).setCell ⟨pb,iy,none⟩ (Yv Yi ca)):=((Keep.refl _ wr).setCell (p:=⟨pb,ix,none⟩) (fun _ e=>e rfl) _).setCell (p:=⟨pb,iy,none⟩) (fun _ e=>e rfl) _;go_roundw;case rel=>exact ⟨hK.trans hKs,k+1,by omega,by go_num,by rw[Hu.out];exact hO9⟩
   case measure=>simp[intOf];omega
  ·have hkC:k=C:=(by omega);subst hkC;go_wp2;exact bodyPost_end (results_none rfl _ _ _) rfl ⟨rfl,hO,(hG2.any).on hK (fun q hq hne=>hne)⟩
structure Two (w:World) (a u:Option Addr) (na nu ca cu:Nat) (s:HS):Prop where
 oa:Own w 3 1 a na ca (ints s.1)
 ou:Own w 3 1 u nu cu (ints s.2)
 ne: ∀ q,blk a=some q->blk u≠some q
theorem Two.keep (h:Two w a u na nu ca cu s) (hk:Keep T w w') (h1: ∀ g,blk a=some g->T g) (h2: ∀ g,blk u=some g->T g):Two w' a u na nu ca cu s:=
 ⟨h.oa.keep hk (fun g hg _=>h1 g hg),h.ou.keep hk (fun g hg _=>h2 g hg),h.ne⟩
theorem Two.grow (h:Two w a u na nu ca cu s) (hk:Grow w w'):Two w' a u na nu ca cu s:=h.keep hk (fun _ _=>trivial) (fun _ _=>trivial)
theorem ZhP (a u:Option Addr) (na nu ca cu:Nat) (R C R' C' kd i p t:Int) (s:HS) (fa fu:List Int) (w:World) (h:Two w a u na nu ca cu s)
  (h1: ∀ w,Own w 3 1 a na ca (ints s.1)->Calls Tryz.prog 174 #[.agg #[Yv Yi R,Yv Yi C, .slice a na ca], .agg #[Yv Yi kd,Yv Yi i,Yv Yi p,Yv Yi t]] w fun e w'=>e= .returned (.tuple #[])/\Own w' 3 1 a na ca (ints fa)/\Keep (fun q=>blk a≠some q) w w')
  (h2: ∀ w,Own w 3 1 u nu cu (ints s.2)->Calls Tryz.prog 174 #[.agg #[Yv Yi R',Yv Yi C', .slice u nu cu], .agg #[Yv Yi kd,Yv Yi i,Yv Yi p,Yv Yi t]] w fun e w'=>e= .returned (.tuple #[])/\Own w' 3 1 u nu cu (ints fu)/\Keep (fun q=>blk u≠some q) w w'):
  Calls Tryz.prog 149 #[.agg #[Yv Yi R,Yv Yi C, .slice a na ca], .agg #[Yv Yi R',Yv Yi C', .slice u nu cu], .agg #[Yv Yi kd,Yv Yi i,Yv Yi p,Yv Yi t]] w fun e w'=>e= .returned (.tuple #[])/\Two w' a u na nu ca cu (fa,fu)/\Keep (fun q=>blk a≠some q/\blk u≠some q) w w':=by
 obtain ⟨w2,hw2,hG2, -,bU, -, -⟩:=al3 w #[Yv Yi R,Yv Yi C, .slice a na ca] 28 #[Yv Yi R',Yv Yi C', .slice u nu cu] 28 #[Yv Yi kd,Yv Yi i,Yv Yi p,Yv Yi t] 131;have bX:Blk w2 (w.heap.size+2) #[Yv Yi kd,Yv Yi i,Yv Yi p,Yv Yi t] 131:=by rw[hw2];exact Blk.newAt _ _ _ (by simp)
 have Hw2:=hid hw2;clear hw2;have ht:=h.grow hG2;have na1:blk a≠some (w.heap.size+1):=fun e=>by have:=h.oa.lt e;omega
 have na2:blk a≠some (w.heap.size+2):=fun e=>by have:=h.oa.lt e;omega
 go_enter Tryz.func149,Tryz.ntmps149;go_wp2_with fail;rw[←Hw2.out];refine (h1 _ ht.oa).mono ?_;rintro e w3 ⟨rfl,hO3,hK3⟩;have bU3:=bU.keep hK3 na1;have bX3:=bX.keep hK3 na2;obtain ⟨⟨a0,a1,a2⟩, -⟩:=bU3.three;have x0:=bX3.cell 0;have x1:=bX3.cell 1;have x2:=bX3.cell 2;have x3:=bX3.cell 3;simp only[List.getElem?_toArray,List.getElem?_cons_zero,List.getElem?_cons_succ] at x0 x1 x2 x3;have hU3:=ht.ou.keep hK3 (fun g hg _ e=>h.ne g e hg);go_wp2_with fail;refine (h2 _ hU3).mono ?_;rintro e w4 ⟨rfl,hO4,hK4⟩;go_wp2;refine bodyPost_end (results_none rfl _ _ _) rfl ⟨rfl,⟨hO3.keep hK4 (fun g hg _ e=>h.ne g hg e),hO4,h.ne⟩, ?_⟩;exact ((hG2.any).trans (hK3.mono (fun q _ hb=>hb.1))).trans (hK4.mono (fun q _ hb=>hb.2))
theorem Zaq {n:Nat} (hn:n=R*C) (hi:i<R):i*C+C<=n:=by
 subst hn;have:(i+1)*C<=R*C:=Nat.mul_le_mul_right _ hi;rw[Nat.add_mul] at this;omega
theorem Zgr (a u:Option Addr) (ca cu R C i p:Nat) (t:Int) (s:HS) (w:World) (h:Two w a u (R*C) (R*R) ca cu s) (hs:Hm C R s) (hi:i<R) (hp:p<R) (hip:i≠p) (ht:NumS t) (hR:R<=24) (hC:C<=24):
  Calls Tryz.prog 149 #[.agg #[Yv Yi R,Yv Yi C, .slice a (R*C) ca], .agg #[Yv Yi R,Yv Yi R, .slice u (R*R) cu], .agg #[Yv Yi 2,Yv Yi i,Yv Yi p,Yv Yi t]] w fun e w'=>e= .returned (.tuple #[])/\Two w' a u (R*C) (R*R) ca cu (Zep C R i p t s)/\Keep (fun q=>blk a≠some q/\blk u≠some q) w w':=by
 have h1:R*C<=24*24:=Nat.mul_le_mul hR hC;have h2:R*R<=24*24:=Nat.mul_le_mul hR hR
 exact ZhP a u _ _ ca cu R C R R 2 i p t s _ _ w h (fun w hw=>ZlB a _ ca C i p R t s.1 w hw (Zaq rfl hi) (Zaq rfl hp) hip hs.na ht (by omega) (by omega) (by omega) (by omega))
  (fun w hw=>ZlB u _ cu R i p R t s.2 w hw (Zaq rfl hi) (Zaq rfl hp) hip hs.nu ht (by omega) (by omega) (by omega) (by omega))
theorem ZkH (a u:Option Addr) (ca cu R C i:Nat) (s:HS) (w:World) (h:Two w a u (R*C) (R*R) ca cu s) (hs:Hs C R s) (hi:i<R) (hR:R<=24) (hC:C<=24):
  Calls Tryz.prog 149 #[.agg #[Yv Yi R,Yv Yi C, .slice a (R*C) ca], .agg #[Yv Yi R,Yv Yi R, .slice u (R*R) cu], .agg #[Yv Yi 1,Yv Yi i,Yv Yi i,Yv Yi 0]] w fun e w'=>e= .returned (.tuple #[])/\Two w' a u (R*C) (R*R) ca cu (Zd3 C R i s)/\Keep (fun q=>blk a≠some q/\blk u≠some q) w w':=by
 have h1:R*C<=24*24:=Nat.mul_le_mul hR hC;have h2:R*R<=24*24:=Nat.mul_le_mul hR hR
 exact ZhP a u _ _ ca cu R C R R 1 i i 0 s _ _ w h (fun w hw=>ZlG a _ ca C i R 0 s.1 w hw (Zaq rfl hi) hs.na (by omega) (by omega) (by omega))
  (fun w hw=>ZlG u _ cu R i R 0 s.2 w hw (Zaq rfl hi) hs.nu (by omega) (by omega) (by omega))
theorem Zhe (a u:Option Addr) (ca cu R C i p:Nat) (s:HS) (w:World) (h:Two w a u (R*C) (R*R) ca cu s) (hs:Hs C R s) (hi:i<R) (hp:p<R) (hip:i≠p) (hR:R<=24) (hC:C<=24):
  Calls Tryz.prog 149 #[.agg #[Yv Yi R,Yv Yi C, .slice a (R*C) ca], .agg #[Yv Yi R,Yv Yi R, .slice u (R*R) cu], .agg #[Yv Yi 0,Yv Yi i,Yv Yi p,Yv Yi 0]] w fun e w'=>e= .returned (.tuple #[])/\Two w' a u (R*C) (R*R) ca cu (sw2 C R i p s)/\Keep (fun q=>blk a≠some q/\blk u≠some q) w w':=by
 have h1:R*C<=24*24:=Nat.mul_le_mul hR hC;have h2:R*R<=24*24:=Nat.mul_le_mul hR hR
 exact ZhP a u _ _ ca cu R C R R 0 i p 0 s _ _ w h (fun w hw=>Zlb a _ ca C i p R 0 s.1 w hw hs.la hi hp hip hs.na (by omega) (by omega) (by omega) (by omega))
  (fun w hw=>Zlb u _ cu R i p R 0 s.2 w hw hs.lu hi hp hip hs.nu (by omega) (by omega) (by omega) (by omega))
theorem Zit (a:Option Addr) (n cp C R t j:Nat) (cells:List Int) (w:World) (h:RdI w S a n cp cells) (hl:cells.length=R*C) (hn:NumL cells) (ht:t<=R) (hj:j<C) (hR:R<=24) (hC:C<=24):
  Calls Tryz.prog 145 #[.agg #[Yv Yi R,Yv Yi C, .slice a n cp],Yv Yi t,Yv Yi j] w fun e w'=>e= .returned (Yv Yi (Zt cells C j t (R-t)))/\Grow w w':=by
 have hnl:=h.len;obtain ⟨w2,hw2,hG2,bM, -⟩:=al1 w #[Yv Yi (R:Int),Yv Yi (C:Int), .slice a n cp] 28;have Hw2:=hid hw2;clear hw2;have Hl:=hid hl;have Hnl:=hid hnl;clear hl hnl;replace h:=h.grow hG2;go_enter Tryz.func145,Tryz.ntmps145;go_wp2;rw[←Hw2.out];go_loopw [7,8] (fun b q wr=>Grow w2 wr/\ ∃ k:Nat,k<=R-t/\q=Yv Yi ((t+k:Nat):Int)/\b=Yv Yi (Zt cells C j t k)) (fun _ q _=>R-(intOf q).toNat);case atStart=>exact ⟨Grow.refl _,0,Nat.zero_le _,rfl,rfl⟩
 case round=>
  obtain ⟨hG,k,hk,rfl,rfl⟩:=hrel;have bMr:=bM.grow hG;have hr:=h.grow hG;obtain ⟨⟨a0,a1,a2⟩, -⟩:=bMr.three;have hltM:=bMr.lt;have hsp:=ZcR cells C j t k;by_cases hlt:t+k<R
  ·have hp1:=Zl (i:=t+k) hj hlt;have hni:(t+k)*C+j<n:=(by rw[←Hnl.out,Hl.out];exact hp1);have hx:=Zr hn C (t+k) j;have hstep:=hid (show Zt cells C j t (k+1)=if cell cells C (t+k) j≠0/\(Zt cells C j t k<0\/(cell cells C (t+k) j).natAbs<(cell cells C (Zt cells C j t k).toNat j).natAbs) then ((t+k:Nat):Int) else Zt cells C j t k from rfl);clear hp1;go_wp2_with fail;refine (ZK a n cp C (t+k) j (R:Int) cells _ hr hni (by omega) (by omega) (by omega)).mono ?_;rintro e w3 ⟨rfl,hG3⟩;clear hni;replace hr:=hr.grow hG3;replace bMr:=bMr.grow hG3;have hG23:=hG.trans hG3;clear a0 a1 a2 hltM hG hG3;generalize hxc:cell cells C (t+k) j=x at *;clear hxc;by_cases hx0:x=0
   ·have HL:=hid (show Zt cells C j t (k+1)=Zt cells C j t k by rw[hstep.out,if_neg (by simp[hx0])]);subst hx0;have hGn:=hG23.drew;clear hstep;generalize Zt cells C j t k=L at *;go_wp2;refine Zd (S:=Grow w3) [([0,1,2,3,4,5,6,8,9,10],some 7),([],some 11),([],some 12),([13,14,15],none)] Zm (by kernel_rfl) (fun _ _ _ _ _ h=>h) (Grow.refl _).drew ?_;show wpQuiet _ _ _ _ [_,_,_,_,_,_,_,_,_,_] _;(repeat (first |go_big_quiet_skip|(go_big_quiet_want;first |(go_big_quiet_op;first |go_big_quiet_on|(refine ⟨_,(fun _ _=>rfl), ?_⟩;go_big_quiet_on)))));refine wpQuiet_nil ?_;refine ZbM rfl ((Grow.refl _).drew) ?_;refine wpQuiet_nil ?_;refine ZbM rfl ((Grow.refl _).drew) ?_;refine wpQuiet_nil ?_;refine ZbM rfl ((Grow.refl _).drew) ?_;show wpQuiet _ _ _ _ [_,_,_] _;(try (conv=>arg 6;simp only[putP]));(repeat (first |go_big_quiet_skip|(go_big_quiet_want;first |(go_big_quiet_op;first |go_big_quiet_on|(refine ⟨_,(fun _ _=>rfl), ?_⟩;go_big_quiet_on)))));refine wpQuiet_nil ?_;refine Zi ?_;go_wp2;go_roundw;case rel=>exact ⟨hGn,k+1,by omega,by go_num,by rw[HL.out]<;>try go_num⟩
    case measure=>simp[intOf];omega
   ·have q1:(x !=0)=true:=(by simpa using hx0);rcases hsp with ⟨hL,_⟩|⟨p,hL,hp1,hp2,hp3,_⟩
    ·have HL:=hid (show Zt cells C j t (k+1)=((t+k:Nat):Int) by rw[hstep.out,if_pos ⟨hx0, .inl (by omega)⟩]);have hGn:=hG23.drew;clear hstep;rw[hL];clear hL;go_wp2;refine Zd (S:=Grow w3) [([0,1,2,3,4,5,6,8,9,10],some 7),([],some 11),([],some 12),([13,14,15],none)] Zm (by kernel_rfl) (fun _ _ _ _ _ h=>h) (Grow.refl _).drew ?_;show wpQuiet _ _ _ _ [_,_,_,_,_,_,_,_,_,_] _;(repeat (first |go_big_quiet_skip|(go_big_quiet_want;first |(go_big_quiet_op;first |go_big_quiet_on|(refine ⟨_,(fun _ _=>rfl), ?_⟩;go_big_quiet_on)))));refine wpQuiet_nil ?_;refine ZbM rfl ((Grow.refl _).drew) ?_;refine wpQuiet_nil ?_;refine ZbM rfl ((Grow.refl _).drew) ?_;refine wpQuiet_nil ?_;refine ZbM rfl ((Grow.refl _).drew) ?_;show wpQuiet _ _ _ _ [_,_,_] _;(try (conv=>arg 6;simp only[putP]));(repeat (first |go_big_quiet_skip|(go_big_quiet_want;first |(go_big_quiet_op;first |go_big_quiet_on|(refine ⟨_,(fun _ _=>rfl), ?_⟩;go_big_quiet_on)))));refine wpQuiet_nil ?_;refine Zi ?_;go_wp2;go_roundw;case rel=>exact ⟨hGn,k+1,by omega,by go_num,by rw[HL.out]<;>try go_num⟩
     case measure=>simp[intOf];omega
    ·have hnp:p*C+j<n:=(by rw[←Hnl.out,Hl.out];exact Zl hj (by omega));have hy:=Zr hn C p j;have hst2:=hid (show Zt cells C j t (k+1)=if x.natAbs<(cell cells C p j).natAbs then ((t+k:Nat):Int) else (p:Int) by
      rw[hstep.out,hL,Int.toNat_natCast];by_cases hc:x.natAbs<(cell cells C p j).natAbs
      ·rw[if_pos ⟨hx0, .inr hc⟩,if_pos hc]
      ·rw[if_neg (by rintro ⟨_,h|h⟩<;>omega),if_neg hc])
     rw[hL];have q2:decide ((p:Int)<0)=false:=decide_eq_false (by omega);clear hL hstep hp3;go_wp2;refine Zd (S:=Grow w3) [([0,1,2,3,4,5,6,8,9,10],some 7),([],some 11),([],some 12),([13,14,15],none)] Zm (by kernel_rfl) (fun _ _ _ _ _ h=>h) (Grow.refl _).drew ?_;show wpQuiet _ _ _ _ [_,_,_,_,_,_,_,_,_,_] _;(repeat (first |go_big_quiet_skip|(go_big_quiet_want;first |(apply Zc Zb;rfl;rfl;exact (fun w' hG=>bMr.grow hG);go_big_quiet_on;simp only[putP])|(go_big_quiet_op;first |go_big_quiet_on|(refine ⟨_,(fun _ _=>rfl), ?_⟩;go_big_quiet_on)))));refine wpQuiet_nil ?_;refine Zh rfl (fun K hK=> ?_);go_wp2_with fail;refine (ZdD x _ (by omega)).mono ?_;rintro e _ ⟨rfl,rfl⟩;go_wp2_with fail;refine hK _ _ ((Grow.refl _).drew) ?_;clear hK K;refine wpQuiet_nil ?_;refine Zh rfl (fun K hK=> ?_);go_wp2_with fail;refine (ZK a n cp C p j (R:Int) cells _ (hr.grow (Grow.refl _).drew) hnp (by omega) (by omega) (by omega)).mono ?_;rintro e w4 ⟨rfl,hG4⟩;have hG34:=(Grow.refl w3).drew.trans hG4;generalize cell cells C p j=y at *;go_wp2_with fail;refine hK _ _ (hG34) ?_;clear hK K;refine wpQuiet_nil ?_;refine Zh rfl (fun K hK=> ?_);go_wp2_with fail;refine (ZdD y _ (by omega)).mono ?_;rintro e _ ⟨rfl,rfl⟩;go_wp2_with fail;refine hK _ _ (hG34) ?_;clear hK K;show wpQuiet _ _ _ _ [_,_,_] _;(try (conv=>arg 6;simp only[putP]));(repeat (first |go_big_quiet_skip|(go_big_quiet_want;first |(apply Zc Zb;rfl;rfl;exact (fun w' hG=>bMr.grow hG);go_big_quiet_on;simp only[putP])|(go_big_quiet_op;first |go_big_quiet_on|(refine ⟨_,(fun _ _=>rfl), ?_⟩;go_big_quiet_on)))));refine wpQuiet_nil ?_;refine Zi ?_;have hGn:=hG23.trans hG34;by_cases hc:x.natAbs<y.natAbs
     ·have HL:=hid (show Zt cells C j t (k+1)=((t+k:Nat):Int) by rw[hst2.out,if_pos hc]);clear hst2;go_wp2;go_roundw;case rel=>exact ⟨hGn,k+1,by omega,by go_num,by rw[HL.out]<;>try go_num⟩
      case measure=>simp[intOf];omega
     ·have HL:=hid (show Zt cells C j t (k+1)=(p:Int) by rw[hst2.out,if_neg hc]);clear hst2;go_wp2;go_roundw;case rel=>exact ⟨hGn,k+1,by omega,by go_num,by rw[HL.out]<;>try go_num⟩
      case measure=>simp[intOf];omega
  ·have hkr:k=R-t:=(by omega);go_wp2;go_ret;exact ⟨by rw[hkr];rfl,hG2.trans hG⟩
theorem Zi5 {m:List Int} {p t:Nat} (h1:t<=i) (h2:i<R) (h3:i≠p) (h4:cell m C i j≠0):Za1 m C R j p t=false:=by
 rw[Bool.eq_false_iff];intro e;exact h4 (ZdO.1 e i h1 h2 h3)
theorem Zmm (a:Option Addr) (n cp C R t j p:Nat) (cells:List Int) (w:World) (h:RdI w S a n cp cells) (hl:cells.length=R*C) (hn:NumL cells) (ht:t<=R) (hj:j<C) (hR:R<=24) (hC:C<=24) (_hp:p<=24):
  Calls Tryz.prog 146 #[.agg #[Yv Yi R,Yv Yi C, .slice a n cp],Yv Yi t,Yv Yi j,Yv Yi p] w fun e w'=>e= .returned (.bool (Za1 cells C R j p t))/\Grow w w':=by
 have hnl:=h.len;obtain ⟨w2,hw2,hG2,bM, -⟩:=al1 w #[Yv Yi (R:Int),Yv Yi (C:Int), .slice a n cp] 28;have Hw2:=hid hw2;clear hw2;have Hl:=hid hl;have Hnl:=hid hnl;clear hl hnl;replace h:=h.grow hG2;go_enter Tryz.func146,Tryz.ntmps146;go_wp2;rw[←Hw2.out];go_loopw [9] (fun q wr=>Grow w2 wr/\ ∃ k:Nat,k<=R-t/\q=Yv Yi ((t+k:Nat):Int)/\ ∀ d,d<k->t+d≠p->cell cells C (t+d) j=0) (fun q _=>R-(intOf q).toNat);case atStart=>exact ⟨Grow.refl _,0,Nat.zero_le _,rfl,fun d hd=>by omega⟩
 case round=>
  obtain ⟨hG,k,hk,rfl,hall⟩:=hrel;have Hall:=hid hall;clear hall;have bMr:=bM.grow hG;have hr:=h.grow hG;obtain ⟨⟨a0,a1,a2⟩, -⟩:=bMr.three;have hltM:=bMr.lt;by_cases hlt:t+k<R
  ·by_cases hkp:t+k=p
   ·have q1:((((t+k:Nat):Int))!=(p:Int))=false:=(by rw[hkp];simp);have q2:(((t:Int)+(k:Int))!=(p:Int))=false:=(by rw[←hkp];simp);have Hkp:=hid hkp;clear hkp;go_wp2;go_roundw;case rel=>
     refine ⟨hG,k+1,by omega,by go_num,fun d hd hne=> ?_⟩;by_cases e:d=k
     ·subst e;exact (hne Hkp.out).elim
     ·exact Hall.out d (by omega) hne
    case measure=>simp[intOf];omega
   ·have q1:((((t+k:Nat):Int))!=(p:Int))=true:=(by simp;omega);have q2:(((t:Int)+(k:Int))!=(p:Int))=true:=(by simp;omega);have hp1:=Zl (i:=t+k) hj hlt;have hni:(t+k)*C+j<n:=(by rw[←Hnl.out,Hl.out];exact hp1);have hx:=Zr hn C (t+k) j;have Hkp:=hid hkp;clear hkp hp1;go_wp2_with fail;refine (ZK a n cp C (t+k) j (R:Int) cells _ hr hni (by omega) (by omega) (by omega)).mono ?_;rintro e w3 ⟨rfl,hG3⟩;clear hni;by_cases hx0:cell cells C (t+k) j=0
    ·have Hx0:=hid hx0;rw[hx0];clear hx0;go_wp2;go_roundw;case rel=>
      refine ⟨hG.trans hG3,k+1,by omega,by go_num,fun d hd hne=> ?_⟩;by_cases e:d=k
      ·subst e;exact Hx0.out
      ·exact Hall.out d (by omega) hne
     case measure=>simp[intOf];omega
    ·have HF:=hid (Zi5 (R:=R) (p:=p) (t:=t) (by omega) hlt Hkp.out hx0);have q3:(cell cells C (t+k) j !=0)=true:=(by simpa using hx0);go_wp2;go_ret;exact ⟨by rw[HF.out];rfl,(hG2.trans hG).trans hG3⟩
  ·have HF:=hid (show Za1 cells C R j p t=true from ZdO.2 fun i h1 h2 h3=>by
    have:=Hall.out (i-t) (by omega);rw[show t+(i-t)=i by omega] at this;exact this h3)
   go_wp2;go_ret;exact ⟨by rw[HF.out];rfl,hG2.trans hG⟩

end Go.Proofs.YtgeoehnbpkediaaGreat
