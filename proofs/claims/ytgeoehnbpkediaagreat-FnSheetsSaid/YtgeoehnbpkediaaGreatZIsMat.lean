/- Numbers within the limit; matrices that are valid. -/
import Derived.Test.YtgeoehnbpkediaaGreatZInts
set_option maxHeartbeats 8000000
set_option maxRecDepth 100000
namespace Go.Proofs.YtgeoehnbpkediaaGreat
open Go.RowKit
open Lib (hid)
open Go.Value renaming int->Yv
open Go.IntKind renaming i64->Yi
variable {A B m:Mat} {F S T:Nat->Prop} {a:Option Addr} {c cap i k sz:Nat} {cs vs:List Value} {hi lo n x:Int} {l xs:List Int} {u v:Value} {w w':World} {xss:List (List Int)} {α:Type}
def Zq (n:Int):Bool:=inB n (-400000000) 400000000
def ZdS (xs:List Int):Bool:=xs.all Zq
theorem Zgm (h:Zq n=true): -400000000<=n/\n<=400000000:=by unfold Zq inB at h;simpa using h
theorem ZT:Zq n=true↔ -400000000<=n/\n<=400000000:=by unfold Zq inB;simp
theorem Zfr (h:xs[k]? =some x):ZdS (xs.take (k+1))=(ZdS (xs.take k)&&Zq x):=by
 rw[Z8 h];unfold ZdS;simp
theorem ZkN (h:xs[k]? =some x) (hx:Zq x=false):ZdS xs=false:=by
 unfold ZdS;rw[List.all_eq_false];exact ⟨x,List.mem_of_getElem? h,by simp[hx]⟩
def ZbV (m:Mat):Bool:=decide (0<=m.rows/\m.rows<=24/\0<=m.cols/\m.cols<=24/\(m.cells.length:Int)=m.rows*m.cols)
def Zg (m:Mat):Bool:=ZbV m&&ZdS m.cells
theorem Zas (n:Int) (w:World):Calls Tryz.prog 130 #[Yv Yi n] w fun e w'=>e= .returned (.bool (Zq n))/\w=w':=by
 by_cases h1: -400000000<=n
 ·by_cases h2:n<=400000000
  ·have H:=hid (ZT.2 ⟨h1,h2⟩);go_enter Tryz.func130,Tryz.ntmps130;go_wp2;go_ret;exact ⟨by rw[H.out];rfl,rfl⟩
  ·have H:=hid (show Zq n=false by cases h:Zq n with |false=>rfl|true=>exact absurd (Zgm h).2 h2);go_enter Tryz.func130,Tryz.ntmps130;go_wp2;go_ret;exact ⟨by rw[H.out];rfl,rfl⟩
 ·have H:=hid (show Zq n=false by cases h:Zq n with |false=>rfl|true=>exact absurd (Zgm h).1 h1);go_enter Tryz.func130,Tryz.ntmps130;go_wp2;go_ret;exact ⟨by rw[H.out];rfl,rfl⟩
theorem Zaz (n:Int) (w:World):Calls Tryz.prog 100 #[Yv Yi n] w fun e w'=>e= .returned (.bool (Zq n))/\w=w':=by
 go_enter Tryz.func100,Tryz.ntmps100;go_wp2_with fail;refine (Zbg _ _ _ _).mono ?_;rintro e w' ⟨rfl,rfl⟩;go_wp2;go_ret;exact ⟨rfl,rfl⟩
theorem Zk2 (a:Option Addr) (n cap:Nat) (xs:List Int) (w:World) (h:RdI w S a n cap xs) (hn:n<=2097152):
  Calls Tryz.prog 99 #[.slice a n cap] w fun e w'=>e= .returned (.bool (ZdS xs))/\w=w':=by
 have hl:=h.len;go_enter Tryz.func99,Tryz.ntmps99;go_wp2;go_loopw [7] (fun i wr=>w=wr/\ ∃ k:Nat,k<=n/\i=Yv Yi k/\ZdS (xs.take k)=true) (fun i _=>n-(intOf i).toNat);case atStart=>exact ⟨by trivial,0,Nat.zero_le _,rfl,rfl⟩
 case round=>
  obtain ⟨rfl,k,hk,rfl,hall⟩:=hrel;have Hall:=hid hall;clear hall;by_cases hlt:k<n
  ·obtain ⟨b,off,x,rfl,hx,hr,_,hb,hc⟩:=h.at hlt;have Hx:=hid hx;clear hx;unfold I64 at hr;cases hN:Zq x with
   |true=>
    have HN:=hid hN;clear hN;go_wp2_with fail;refine (Zas _ _).mono ?_;rintro e w' ⟨rfl,rfl⟩;rw[HN.out];go_wp2;go_roundw;case rel=>exact ⟨by trivial,k+1,by omega,by go_num,by rw[Zfr Hx.out,Hall.out,HN.out];rfl⟩
    case measure=>simp[intOf];omega
   |false=>have HN:=hid hN;clear hN;go_wp2_with fail;refine (Zas _ _).mono ?_;rintro e w' ⟨rfl,rfl⟩;rw[HN.out];go_wp2;go_ret;exact ⟨by rw[ZkN Hx.out HN.out];rfl,rfl⟩
  ·have:k=n:=(by omega);subst this;rw[ZaN hl] at Hall;go_wp2;go_ret;exact ⟨by rw[Hall.out];rfl,rfl⟩
theorem ZV (h:VM w S v m) (hb:bdM m<=2097152):
  Calls Tryz.prog 71 #[v] w fun e w'=>e= .returned (.bool (Zg m))/\Grow w w':=by
 obtain ⟨a,n,c,rfl,h,hr,hc⟩:=h;have hl:=h.len;unfold bdM at hb;obtain ⟨r,k,cells⟩:=m;simp only at *;unfold I64 at hr hc;have hG:Grow w (w.alloc (.cells #[Yv Yi r,Yv Yi k, .slice a n c] 28)):=(Grow.refl w).alloc _ _;by_cases h1:0<=r
 ·by_cases h2:r<=24
  ·by_cases h3:0<=k
   ·by_cases h4:k<=24
    ·obtain ⟨R,rfl⟩:=Int.eq_ofNat_of_zero_le h1;obtain ⟨K,rfl⟩:=Int.eq_ofNat_of_zero_le h3;have hm:R*K<=24*24:=Nat.mul_le_mul (by omega) (by omega);have hmul:((R:Int)*(K:Int))=((R*K:Nat):Int):=(by simp);have hw1:IntKind.i64.wrap ((R:Int)*K)=((R*K:Nat):Int):=(by rw[hmul];exact IntWalk.i64_in _ (by omega));obtain ⟨p,hp⟩: ∃ p,p=R*K:=⟨_,rfl⟩;rw[←hp] at hw1;by_cases h5:n=p
     ·have q1:((n:Int)==(p:Int))=true:=(by simp[h5]);have q2:((n:Int)!=(p:Int))=false:=(by simp[h5]);have Hsh:=hid (show ZbV ⟨(R:Int),(K:Int),cells⟩=true by unfold ZbV;simp only[decide_eq_true_eq];refine ⟨h1,h2,h3,h4, ?_⟩;rw[hmul];omega);clear hmul hp h5 hm;go_enter Tryz.func71,Tryz.ntmps71;go_wp2_with fail;refine (Zk2 _ _ _ cells _ (h.grow hG) (by omega)).mono ?_;rintro e w' ⟨rfl,rfl⟩;go_wp2;go_ret;exact ⟨by unfold Zg;rw[Hsh.out];simp,hG⟩
     ·have q1:((n:Int)==(p:Int))=false:=(by simp;omega);have q2:((n:Int)!=(p:Int))=true:=(by simp;omega);have H:=hid (show Zg ⟨(R:Int),(K:Int),cells⟩=false by unfold Zg ZbV;rw[decide_eq_false (fun hh=>h5 (by have:=hh.2.2.2.2;rw[hmul] at this;simp only at this;omega))];rfl);clear hmul hp h5 hm;go_enter Tryz.func71,Tryz.ntmps71;go_wp2;go_ret;exact ⟨by rw[H.out];rfl,hG⟩
    ·have H:=hid (show Zg ⟨r,k,cells⟩=false by unfold Zg ZbV;rw[decide_eq_false (fun hh=>h4 hh.2.2.2.1)];rfl);go_enter Tryz.func71,Tryz.ntmps71;go_wp2;go_ret;exact ⟨by rw[H.out];rfl,hG⟩
   ·have H:=hid (show Zg ⟨r,k,cells⟩=false by unfold Zg ZbV;rw[decide_eq_false (fun hh=>h3 hh.2.2.1)];rfl);go_enter Tryz.func71,Tryz.ntmps71;go_wp2;go_ret;exact ⟨by rw[H.out];rfl,hG⟩
  ·have H:=hid (show Zg ⟨r,k,cells⟩=false by unfold Zg ZbV;rw[decide_eq_false (fun hh=>h2 hh.2.1)];rfl);go_enter Tryz.func71,Tryz.ntmps71;go_wp2;go_ret;exact ⟨by rw[H.out];rfl,hG⟩
 ·have H:=hid (show Zg ⟨r,k,cells⟩=false by unfold Zg ZbV;rw[decide_eq_false (fun hh=>h1 hh.1)];rfl);go_enter Tryz.func71,Tryz.ntmps71;go_wp2;go_ret;exact ⟨by rw[H.out];rfl,hG⟩
theorem Za8 (a:Option Addr) (n cp C i j idx:Nat) (R x:Int) (cells:List Int) (w:World) (h:RdI w S a n cp cells) (hidx:idx=i*C+j) (hx:cells[idx]? =some x) (hn:n<=1048576) (hi:i<=1048576) (hC:C<=1048576) (_hj:j<=1048576):
  Calls Tryz.prog 103 #[.agg #[Yv Yi R,Yv Yi C, .slice a n cp],Yv Yi i,Yv Yi j] w fun e w'=>e= .returned (Yv Yi x)/\Grow w w':=by
 have hl:=h.len;have hlt:idx<n:=by rw[←hl];exact (List.getElem?_eq_some_iff.1 hx).1
 have hG:Grow w (w.alloc (.cells #[Yv Yi R,Yv Yi C, .slice a n cp] 28)):=(Grow.refl w).alloc _ _;have hiC:i*C<=1048576*1048576:=Nat.mul_le_mul hi hC;obtain ⟨b,off,y,rfl,hy,hr,_,hb,hc⟩:=(h.grow hG).at hlt;obtain rfl:x=y:=Option.some.inj (hx.symm.trans hy);clear hx hy;have hw1:IntKind.i64.wrap ((i:Int)*C)=(i:Int)*C:=by
  have:((i:Int)*C)=((i*C:Nat):Int):=by simp
  rw[this];exact IntWalk.i64_in _ (by omega)
 have hsum:((i:Int)*C+j)=((idx:Nat):Int):=by rw[hidx];simp
 have hw2:IntKind.i64.wrap ((i:Int)*C+j)=(idx:Int):=by rw[hsum];exact IntWalk.i64_in _ (by omega)
 clear hsum hidx;go_enter Tryz.func103,Tryz.ntmps103;go_wp2;go_ret;exact ⟨rfl,hG⟩
theorem Zhw:inB x lo hi=true↔lo<=x/\x<=hi:=by unfold inB;simp
theorem ZjV (h: ¬ (lo<=x/\x<=hi)):inB x lo hi=false:=by
 cases e:inB x lo hi with
 |false=>rfl
 |true=>exact absurd (Zhw.1 e) h
theorem ZP (h:VM w S v m) (hb:bdM m<=2097152):
  Calls Tryz.prog 74 #[v] w fun e w'=>e= .returned (.bool (Zg m))/\Grow w w':=by
 obtain ⟨a,n,c,rfl,h,hr,hc⟩:=h;have hl:=h.len;unfold bdM at hb;obtain ⟨r,k,cells⟩:=m;simp only at *;unfold I64 at hr hc;have hG:Grow w (w.alloc (.cells #[Yv Yi r,Yv Yi k, .slice a n c] 28)):=(Grow.refl w).alloc _ _;by_cases h1:0<=r/\r<=24
 ·have I1:=hid (Zhw.2 h1);by_cases h2:0<=k/\k<=24
  ·have I2:=hid (Zhw.2 h2);obtain ⟨R,rfl⟩:=Int.eq_ofNat_of_zero_le h1.1;obtain ⟨K,rfl⟩:=Int.eq_ofNat_of_zero_le h2.1;have hm:R*K<=24*24:=Nat.mul_le_mul (by omega) (by omega);have hmul:((R:Int)*(K:Int))=((R*K:Nat):Int):=(by simp);have hw1:IntKind.i64.wrap ((R:Int)*K)=((R*K:Nat):Int):=(by rw[hmul];exact IntWalk.i64_in _ (by omega));obtain ⟨p,hp⟩: ∃ p,p=R*K:=⟨_,rfl⟩;rw[←hp] at hw1;by_cases h5:n=p
   ·have q1:((n:Int)==(p:Int))=true:=(by simp[h5]);have q2:((n:Int)!=(p:Int))=false:=(by simp[h5]);have Hsh:=hid (show ZbV ⟨(R:Int),(K:Int),cells⟩=true by unfold ZbV;simp only[decide_eq_true_eq];refine ⟨h1.1,h1.2,h2.1,h2.2, ?_⟩;rw[hmul];omega);clear hmul hp h5 hm;have hB0:=Blk.new w #[Yv Yi (R:Int),Yv Yi (K:Int), .slice a n c] 28;go_enter Tryz.func74,Tryz.ntmps74;go_wp2_with fail;refine (Zbg _ _ _ _).mono ?_;rintro e w' ⟨rfl,rfl⟩;rw[I1.out];go_wp2_with fail;refine (Zbg _ _ _ _).mono ?_;rintro e w' ⟨rfl,rfl⟩;rw[I2.out];go_wp2;go_loopw [3] (fun i wr=>(w.alloc (.cells #[Yv Yi (R:Int),Yv Yi (K:Int), .slice a n c] 28))=wr/\ ∃ k:Nat,k<=n/\i=Yv Yi k/\ZdS (cells.take k)=true) (fun i _=>n-(intOf i).toNat);case atStart=>exact ⟨by trivial,0,Nat.zero_le _,rfl,rfl⟩
    case round=>
     obtain ⟨rfl,i,hk,rfl,hall⟩:=hrel;have Hall:=hid hall;clear hall;by_cases hlt:i<n
     ·obtain ⟨b,off,x,rfl,hx,hr,_,hb,hc⟩:=(h.grow hG).at hlt;have Hx:=hid hx;clear hx;unfold I64 at hr;cases hN:Zq x with
      |true=>
       have HN:=hid hN;clear hN;go_wp2_with fail;refine (Zaz _ _).mono ?_;rintro e w' ⟨rfl,rfl⟩;rw[HN.out];go_wp2;go_roundw;case rel=>exact ⟨by trivial,i+1,by omega,by go_num,by rw[Zfr Hx.out,Hall.out,HN.out];rfl⟩
       case measure=>simp[intOf];omega
      |false=>have HN:=hid hN;clear hN;go_wp2_with fail;refine (Zaz _ _).mono ?_;rintro e w' ⟨rfl,rfl⟩;rw[HN.out];go_wp2;go_ret;exact ⟨by unfold Zg;rw[ZkN Hx.out HN.out];simp,hG⟩
     ·have:i=n:=(by omega);subst this;rw[ZaN hl] at Hall;go_wp2;go_ret;exact ⟨by unfold Zg;rw[Hall.out,Hsh.out];rfl,hG⟩
   ·have q1:((n:Int)==(p:Int))=false:=(by simp;omega);have q2:((n:Int)!=(p:Int))=true:=(by simp;omega);have H:=hid (show Zg ⟨(R:Int),(K:Int),cells⟩=false by unfold Zg ZbV;rw[decide_eq_false (fun hh=>h5 (by have:=hh.2.2.2.2;rw[hmul] at this;simp only at this;omega))];rfl);clear hmul hp h5 hm;go_enter Tryz.func74,Tryz.ntmps74;go_wp2_with fail;refine (Zbg _ _ _ _).mono ?_;rintro e w' ⟨rfl,rfl⟩;rw[I1.out];go_wp2_with fail;refine (Zbg _ _ _ _).mono ?_;rintro e w' ⟨rfl,rfl⟩;rw[I2.out];go_wp2;go_ret;exact ⟨by rw[H.out];rfl,hG⟩
  ·have I2:=hid (ZjV h2);have H:=hid (show Zg ⟨r,k,cells⟩=false by unfold Zg ZbV;rw[decide_eq_false (fun hh=>h2 ⟨hh.2.2.1,hh.2.2.2.1⟩)];rfl);go_enter Tryz.func74,Tryz.ntmps74;go_wp2_with fail;refine (Zbg _ _ _ _).mono ?_;rintro e w' ⟨rfl,rfl⟩;rw[I1.out];go_wp2_with fail;refine (Zbg _ _ _ _).mono ?_;rintro e w' ⟨rfl,rfl⟩;rw[I2.out];go_wp2;go_ret;exact ⟨by rw[H.out];rfl,hG⟩
 ·have I1:=hid (ZjV h1);have H:=hid (show Zg ⟨r,k,cells⟩=false by unfold Zg ZbV;rw[decide_eq_false (fun hh=>h1 ⟨hh.1,hh.2.1⟩)];rfl);go_enter Tryz.func74,Tryz.ntmps74;go_wp2_with fail;refine (Zbg _ _ _ _).mono ?_;rintro e w' ⟨rfl,rfl⟩;rw[I1.out];go_wp2;go_ret;exact ⟨by rw[H.out];rfl,hG⟩
def okM (m:Mat):Mat:=if Zg m=true then m else {rows:=0,cols:=0,cells:=[]}
theorem ZD (h:Zg m=true): ∃ R C:Nat,m.rows=R/\m.cols=C/\R<=24/\C<=24/\m.cells.length=R*C/\ ∀ x∈m.cells, -400000000<=x/\x<=400000000:=by
 unfold Zg ZbV at h;simp only[Bool.and_eq_true,decide_eq_true_eq] at h;obtain ⟨⟨h1,h2,h3,h4,h5⟩,h6⟩:=h;obtain ⟨R,hR⟩:=Int.eq_ofNat_of_zero_le h1;obtain ⟨C,hC⟩:=Int.eq_ofNat_of_zero_le h3;refine ⟨R,C,hR,hC,by omega,by omega, ?_,fun x hx=> ?_⟩
 ·rw[hR,hC] at h5;exact_mod_cast h5
 ·unfold ZdS at h6;exact Zgm (List.all_eq_true.1 h6 x hx)
theorem Zql:bdM (okM m)<=576:=by
 unfold okM;split
 ·rename_i h;obtain ⟨R,C,_,_,h1,h2,h3,_⟩:=ZD h;have:=Nat.mul_le_mul h1 h2;unfold bdM;omega
 ·simp[bdM]
theorem Zjy (h:OM w F v m) (hb:bdM m<=2097152):
  Calls Tryz.prog 101 #[v] w fun e w'=> ∃ u,e= .returned (.tuple #[u, .bool (Zg m)])/\OM w' F u (okM m)/\Grow w w':=by
 obtain ⟨a,n,c,rfl,h,hx,hF,hr,hk⟩:=h;have hG2:Grow w ((w.alloc (.cells #[Yv Yi m.rows,Yv Yi m.cols, .slice a n c] 28)).alloc (.cells #[Yv Yi 0,Yv Yi 0, .slice none 0 0] 28)):=((Grow.refl w).alloc _ _).alloc _ _;have hb1:=(Blk.new w #[Yv Yi m.rows,Yv Yi m.cols, .slice a n c] 28).alloc (.cells #[Yv Yi 0,Yv Yi 0, .slice none 0 0] 28);have hb2:=Blk.newAt (w.alloc (.cells #[Yv Yi m.rows,Yv Yi m.cols, .slice a n c] 28)) #[Yv Yi 0,Yv Yi 0, .slice none 0 0] 28 (g:=w.heap.size+1) (by simp);have hO:OM w F (.agg #[Yv Yi m.rows,Yv Yi m.cols, .slice a n c]) m:=⟨a,n,c,rfl,h,hx,hF,hr,hk⟩;obtain ⟨⟨a0,a1,a2⟩, -⟩:=hb1.three;cases hM:Zg m with
 |true=>
  have HM:=hid hM;clear hM;go_enter Tryz.func101,Tryz.ntmps101;go_wp2_with fail;refine (ZV ((hO.grow hG2).rd (S:=fun _=>True) fun _ _=>trivial) hb).mono ?_;rintro e w3 ⟨rfl,hG3⟩;rw[HM.out];replace hb1:=hb1.grow hG3;replace hb2:=hb2.grow hG3;replace hO:=(hO.grow hG2).grow hG3;have hG:=hG2.trans hG3;have h0:=h;clear hG2 hG3 a0 a1 a2 h;obtain ⟨⟨a0,a1,a2⟩, -⟩:=hb1.three;obtain ⟨⟨c0,c1,c2⟩,f0,f1,f2⟩:=hb2.three;have hle:w.heap.size<=w.heap.size+1:=Nat.le_succ _;go_wp2;have hKs:Grow w (((w3.setCell ⟨w.heap.size+1,0,none⟩ (Yv Yi m.rows)).setCell ⟨w.heap.size+1,1,none⟩ (Yv Yi m.cols)).setCell ⟨w.heap.size+1,2,none⟩ (.slice a n c)):=((hG.setCell hle _).setCell hle _).setCell hle _;have _hKo:Keep (fun q=>q≠w.heap.size+1) w3 (((w3.setCell ⟨w.heap.size+1,0,none⟩ (Yv Yi m.rows)).setCell ⟨w.heap.size+1,1,none⟩ (Yv Yi m.cols)).setCell ⟨w.heap.size+1,2,none⟩ (.slice a n c)):=
   (((Keep.refl _ w3).setCell (fun _ e=>e rfl) _).setCell (fun _ e=>e rfl) _).setCell (fun _ e=>e rfl) _
  refine Zf Zb rfl rfl rfl (((hb2.set 0 _).set 1 _).set 2 _) ⟨_,rfl, ?_,hKs⟩;unfold okM;rw[if_pos HM.out];refine ⟨a,n,c,rfl,h0.grow hKs,hx,hF,hr,hk⟩
 |false=>have HM:=hid hM;clear hM;go_enter Tryz.func101,Tryz.ntmps101;go_wp2_with fail;refine (ZV ((hO.grow hG2).rd (S:=fun _=>True) fun _ _=>trivial) hb).mono ?_;rintro e w3 ⟨rfl,hG3⟩;rw[HM.out];replace hb1:=hb1.grow hG3;replace hb2:=hb2.grow hG3;replace hO:=(hO.grow hG2).grow hG3;have hG:=hG2.trans hG3;have h0:=h;clear hG2 hG3 a0 a1 a2 h;obtain ⟨⟨a0,a1,a2⟩, -⟩:=hb1.three;obtain ⟨⟨c0,c1,c2⟩,f0,f1,f2⟩:=hb2.three;have hle:w.heap.size<=w.heap.size+1:=Nat.le_succ _;go_wp2;have hKs:Grow w (((w3.setCell ⟨w.heap.size+1,0,none⟩ (Yv Yi 0)).setCell ⟨w.heap.size+1,1,none⟩ (Yv Yi 0)).setCell ⟨w.heap.size+1,2,none⟩ (.slice none 0 0)):=((hG.setCell hle _).setCell hle _).setCell hle _;refine Zf Zb rfl rfl rfl (((hb2.set 0 _).set 1 _).set 2 _) ⟨_,rfl, ?_,hKs⟩;unfold okM;rw[if_neg (by rw[HM.out];simp)];exact ⟨none,0,0,rfl,Own.nilw,(fun x hx=>by cases hx),(fun g hg=>by simp at hg),by simp[I64],by simp[I64]⟩
theorem Zh2 (h:OM w F v m) (hb:bdM m<=2097152):
  Calls Tryz.prog 119 #[v] w fun e w'=> ∃ u,e= .returned (.tuple #[u, .bool (Zg m)])/\OM w' F u (okM m)/\Grow w w':=by
 obtain ⟨a,n,c,rfl,h,hx,hF,hr,hk⟩:=h;have hG2:Grow w ((w.alloc (.cells #[Yv Yi m.rows,Yv Yi m.cols, .slice a n c] 28)).alloc (.cells #[Yv Yi 0,Yv Yi 0, .slice none 0 0] 28)):=((Grow.refl w).alloc _ _).alloc _ _;have hb1:=(Blk.new w #[Yv Yi m.rows,Yv Yi m.cols, .slice a n c] 28).alloc (.cells #[Yv Yi 0,Yv Yi 0, .slice none 0 0] 28);have hb2:=Blk.newAt (w.alloc (.cells #[Yv Yi m.rows,Yv Yi m.cols, .slice a n c] 28)) #[Yv Yi 0,Yv Yi 0, .slice none 0 0] 28 (g:=w.heap.size+1) (by simp);have hO:OM w F (.agg #[Yv Yi m.rows,Yv Yi m.cols, .slice a n c]) m:=⟨a,n,c,rfl,h,hx,hF,hr,hk⟩;obtain ⟨⟨a0,a1,a2⟩, -⟩:=hb1.three;cases hM:Zg m with
 |true=>
  have HM:=hid hM;clear hM;go_enter Tryz.func119,Tryz.ntmps119;go_wp2_with fail;refine (ZP ((hO.grow hG2).rd (S:=fun _=>True) fun _ _=>trivial) hb).mono ?_;rintro e w3 ⟨rfl,hG3⟩;rw[HM.out];replace hb1:=hb1.grow hG3;replace hb2:=hb2.grow hG3;replace hO:=(hO.grow hG2).grow hG3;have hG:=hG2.trans hG3;have h0:=h;clear hG2 hG3 a0 a1 a2 h;obtain ⟨⟨a0,a1,a2⟩, -⟩:=hb1.three;obtain ⟨⟨c0,c1,c2⟩,f0,f1,f2⟩:=hb2.three;have hle:w.heap.size<=w.heap.size+1:=Nat.le_succ _;go_wp2;have hKs:Grow w (((w3.setCell ⟨w.heap.size+1,0,none⟩ (Yv Yi m.rows)).setCell ⟨w.heap.size+1,1,none⟩ (Yv Yi m.cols)).setCell ⟨w.heap.size+1,2,none⟩ (.slice a n c)):=((hG.setCell hle _).setCell hle _).setCell hle _;have _hKo:Keep (fun q=>q≠w.heap.size+1) w3 (((w3.setCell ⟨w.heap.size+1,0,none⟩ (Yv Yi m.rows)).setCell ⟨w.heap.size+1,1,none⟩ (Yv Yi m.cols)).setCell ⟨w.heap.size+1,2,none⟩ (.slice a n c)):=
   (((Keep.refl _ w3).setCell (fun _ e=>e rfl) _).setCell (fun _ e=>e rfl) _).setCell (fun _ e=>e rfl) _
  refine Zf Zb rfl rfl rfl (((hb2.set 0 _).set 1 _).set 2 _) ⟨_,rfl, ?_,hKs⟩;unfold okM;rw[if_pos HM.out];refine ⟨a,n,c,rfl,h0.grow hKs,hx,hF,hr,hk⟩
 |false=>have HM:=hid hM;clear hM;go_enter Tryz.func119,Tryz.ntmps119;go_wp2_with fail;refine (ZP ((hO.grow hG2).rd (S:=fun _=>True) fun _ _=>trivial) hb).mono ?_;rintro e w3 ⟨rfl,hG3⟩;rw[HM.out];replace hb1:=hb1.grow hG3;replace hb2:=hb2.grow hG3;replace hO:=(hO.grow hG2).grow hG3;have hG:=hG2.trans hG3;have h0:=h;clear hG2 hG3 a0 a1 a2 h;obtain ⟨⟨a0,a1,a2⟩, -⟩:=hb1.three;obtain ⟨⟨c0,c1,c2⟩,f0,f1,f2⟩:=hb2.three;have hle:w.heap.size<=w.heap.size+1:=Nat.le_succ _;go_wp2;have hKs:Grow w (((w3.setCell ⟨w.heap.size+1,0,none⟩ (Yv Yi 0)).setCell ⟨w.heap.size+1,1,none⟩ (Yv Yi 0)).setCell ⟨w.heap.size+1,2,none⟩ (.slice none 0 0)):=((hG.setCell hle _).setCell hle _).setCell hle _;refine Zf Zb rfl rfl rfl (((hb2.set 0 _).set 1 _).set 2 _) ⟨_,rfl, ?_,hKs⟩;unfold okM;rw[if_neg (by rw[HM.out];simp)];exact ⟨none,0,0,rfl,Own.nilw,(fun x hx=>by cases hx),(fun g hg=>by simp at hg),by simp[I64],by simp[I64]⟩
def ZbX (a b:List Int) (n c i j:Nat):Nat->Int
 |0=>0
 |k+1=>ZbX a b n c i j k+a.getD (i*n+k) 0*b.getD (k*c+j) 0
def ZeF (a b:List Int) (n c i:Nat):Nat->List Int->List Int
 |0,cells=>cells
 |j+1,cells=>(ZeF a b n c i j cells).set (i*c+j) (ZbX a b n c i j n)
def Zb9 (a b:List Int) (n c r:Nat):Nat->List Int
 |0=>List.replicate (r*c) 0
 |i+1=>ZeF a b n c i c (Zb9 a b n c r i)
def ZbD (a b:Mat):Mat:={rows:=a.rows,cols:=b.cols,cells:=Zb9 a.cells b.cells a.cols.toNat b.cols.toNat a.rows.toNat a.rows.toNat}
def Zai (a b:Mat):Bool:=Zg a&&Zg b&&a.cols==b.rows
def Zag (a b:Mat):Bool:=Zai a b&&Zg (ZbD a b)
def Zaw (a b:Mat):Mat:=if Zai a b=true then okM (ZbD a b) else {rows:=0,cols:=0,cells:=[]}
def NumL (l:List Int):Prop:= ∀ x∈l, -400000000<=x/\x<=400000000
theorem NumL.getD (h:NumL l) (i:Nat): -400000000<=l.getD i 0/\l.getD i 0<=400000000:=by
 by_cases hi:i<l.length
 ·have:l.getD i 0=l[i]:=by simp[List.getD,List.getElem?_eq_getElem hi]
  rw[this];exact h _ (List.getElem_mem hi)
 ·have:l.getD i 0=0:=by simp[List.getD,List.getElem?_eq_none (Nat.le_of_not_lt hi)]
  rw[this];omega
theorem ZfP {y:Int} (hx: -400000000<=x/\x<=400000000) (hy: -400000000<=y/\y<=400000000): -160000000000000000<=x*y/\x*y<=160000000000000000:=by
 have h:(x*y).natAbs<=400000000*400000000:=by rw[Int.natAbs_mul];exact Nat.mul_le_mul (by omega) (by omega)
 omega
theorem Zec {a b:List Int} (ha:NumL a) (hb:NumL b) (n c i j:Nat): ∀ k:Nat, -160000000000000000*(k:Int)<=ZbX a b n c i j k/\ZbX a b n c i j k<=160000000000000000*(k:Int)
 |0=>by simp[ZbX]
 |k+1=>by
  have h1:=Zec ha hb n c i j k;have h2:=ZfP (ha.getD (i*n+k)) (hb.getD (k*c+j));unfold ZbX
  push_cast
  omega
theorem ZhZ (a b:List Int) (n c i:Nat): ∀ (j:Nat) (cells:List Int),(ZeF a b n c i j cells).length=cells.length
 |0,_=>rfl
 |j+1,cells=>by unfold ZeF;simp[ZhZ a b n c i j cells]
theorem ZgO (a b:List Int) (n c r:Nat): ∀ i,(Zb9 a b n c r i).length=r*c
 |0=>by simp[Zb9]
 |i+1=>by unfold Zb9;rw[ZhZ,ZgO a b n c r i]
theorem ZkG {a b:List Int} (ha:NumL a) (hb:NumL b) {n:Nat} (hn:n<=24) (c i:Nat): ∀ (j:Nat) (cells:List Int),(∀ y∈cells,I64 y)-> ∀ y∈ZeF a b n c i j cells,I64 y
 |0,_,h=>h
 |j+1,cells,h=>by
  have ih:=ZkG ha hb hn c i j cells h;intro y hy;unfold ZeF at hy;rcases List.mem_or_eq_of_mem_set hy with h1|h1
  ·exact ih y h1
  ·have:=Zec ha hb n c i j n;subst h1;unfold I64;omega
theorem Zjs {a b:List Int} (ha:NumL a) (hb:NumL b) {n:Nat} (hn:n<=24) (c r:Nat): ∀ i, ∀ y∈Zb9 a b n c r i,I64 y
 |0=>Znm
 |i+1=>by unfold Zb9;exact ZkG ha hb hn c i c _ (Zjs ha hb hn c r i)
theorem Zaf (hi:i<=1048576) (hc:c<=1048576):IntKind.i64.wrap ((i:Int)*c)=(i:Int)*c:=by
 have h:i*c<=1048576*1048576:=Nat.mul_le_mul hi hc;have:((i:Int)*c)=((i*c:Nat):Int):=by simp
 rw[this];exact IntWalk.i64_in _ (by omega)
theorem ZaI {j x:Nat} (hi:i<=1048576) (hc:c<=1048576) (hj:j<=1048576) (hx:x=i*c+j):IntKind.i64.wrap ((i:Int)*c+j)=(x:Int):=by
 have h:i*c<=1048576*1048576:=Nat.mul_le_mul hi hc;have:((i:Int)*c+j)=((x:Nat):Int):=by rw[hx];simp
 rw[this];exact IntWalk.i64_in _ (by omega)
theorem getD_at (h:l[k]? =some x):l.getD k 0=x:=by simp[List.getD,h]
theorem ZpF (aa ab:Option Addr) (na ca nb cb R N C:Nat) (xs ys:List Int) (w:World) (h:RdI w S aa na ca xs) (h':RdI w T ab nb cb ys) (hR:R<=24) (hN:N<=24) (hC:C<=24) (hx:xs.length=R*N) (hy:ys.length=N*C) (nx:NumL xs) (ny:NumL ys):
  Calls Tryz.prog 120 #[.agg #[Yv Yi (R:Int),Yv Yi (N:Int), .slice aa na ca], .agg #[Yv Yi (N:Int),Yv Yi (C:Int), .slice ab nb cb]] w fun e w'=>
   ∃ am,e= .returned (.agg #[Yv Yi (R:Int),Yv Yi (C:Int), .slice am (R*C) (R*C)])/\Own w' 3 1 am (R*C) (R*C) (ints (Zb9 xs ys N C R R))/\(∀ g,blk am=some g->w.heap.size<=g)/\Grow w w':=by
 have hl:=h.len;have hl':=h'.len;obtain ⟨w3,hw3,hG3, -, -, -, -⟩:=al3 w #[Yv Yi (R:Int),Yv Yi (N:Int), .slice aa na ca] 28 #[Yv Yi (N:Int),Yv Yi (C:Int), .slice ab nb cb] 28 #[Yv Yi 0,Yv Yi 0, .slice none 0 0] 28;have hs3:w3.heap.size=w.heap.size+3:=by rw[hw3];simp
 have bA:Blk w3 w.heap.size #[Yv Yi (R:Int),Yv Yi (N:Int), .slice aa na ca] 28:=by rw[hw3];exact ((Blk.new w _ _).alloc _).alloc _
 have bB:Blk w3 (w.heap.size+1) #[Yv Yi (N:Int),Yv Yi (C:Int), .slice ab nb cb] 28:=by rw[hw3];exact (Blk.newAt _ _ _ (by simp)).alloc _
 have bZ:Blk w3 (w.heap.size+2) #[Yv Yi 0,Yv Yi 0, .slice none 0 0] 28:=by rw[hw3];exact Blk.newAt _ _ _ (by simp)
 obtain ⟨⟨a0,a1,a2⟩, -⟩:=bA.three;obtain ⟨⟨b0,b1,b2⟩, -⟩:=bB.three;rw[hw3] at a0 a1 a2 b0 b1 b2;have Hw3:=hid hw3;clear hw3;go_enter Tryz.func120,Tryz.ntmps120;go_wp2_with fail;rw[←Hw3.out];clear a0 a1 a2 b0 b1 b2;refine (ZfR R C _ (by omega) (by omega)).mono ?_;rintro e w5 ⟨am,rfl,hO,hB5,hG5⟩;have hs5:=hG5.size;have hrA:RdI w5 (fun q=>blk am≠some q) aa na ca xs:=((h.grow hG3).weak (T:=fun b=>b<w3.heap.size) (fun _ hb _=>hb)).grow hG5 |>.weak fun b _ hb e=>by have:=hB5 b e;omega
 have hrB:RdI w5 (fun q=>blk am≠some q) ab nb cb ys:=((h'.grow hG3).weak (T:=fun b=>b<w3.heap.size) (fun _ hb _=>hb)).grow hG5 |>.weak fun b _ hb e=>by have:=hB5 b e;omega
 have nA:blk am≠some w.heap.size:=fun e=>by have:=hB5 _ e;omega
 have nB:blk am≠some (w.heap.size+1):=fun e=>by have:=hB5 _ e;omega
 have nZ:blk am≠some (w.heap.size+2):=fun e=>by have:=hB5 _ e;omega
 have nM:blk am≠some w5.heap.size:=fun e=>by have:=hO.lt e;omega
 replace bA:=bA.grow hG5;replace bB:=bB.grow hG5;replace bZ:=bZ.grow hG5;have hRC:R*C<=24*24:=Nat.mul_le_mul hR hC;have bM0:=Blk.newAt w5 #[Yv Yi (R:Int),Yv Yi (C:Int), .slice am (R*C) (R*C)] 28 rfl;have hGb:Grow w5 (w5.alloc (.cells #[Yv Yi (R:Int),Yv Yi (C:Int), .slice am (R*C) (R*C)] 28)):=(Grow.refl _).alloc _ _;have Hx:=hid hx;have Hy:=hid hy;have Hl:=hid hl;have Hl':=hid hl';clear hx hy hl hl' Hw3;go_wp2;go_loopw [6] (fun q wr=>Keep (fun q=>blk am≠some q) w5 wr/\Blk wr w5.heap.size #[Yv Yi (R:Int),Yv Yi (C:Int), .slice am (R*C) (R*C)] 28/\ ∃ i:Nat,i<=R/\q=Yv Yi i/\Own wr 3 1 am (R*C) (R*C) (ints (Zb9 xs ys N C R i))) (fun q _=>R-(intOf q).toNat);case atStart=>exact ⟨hGb.any,bM0,0,Nat.zero_le _,rfl,hO.grow hGb⟩
 case round=>
  clear bM0 hO hGb;obtain ⟨hK,bM,i,hi,rfl,hO⟩:=hrel;have bAr:=bA.keep hK nA;obtain ⟨⟨a0,a1,a2⟩, -⟩:=bAr.three;by_cases hin:i<R
  ·have bBr:=bB.keep hK nB;obtain ⟨⟨b0,b1,b2⟩, -⟩:=bBr.three;obtain ⟨wo,rfl⟩: ∃ wo:World,wo=wr:=⟨_,rfl⟩;go_wp2;go_loopw [7] (fun q wr=>Keep (fun q=>blk am≠some q) wo wr/\ ∃ j:Nat,j<=C/\q=Yv Yi j/\Own wr 3 1 am (R*C) (R*C) (ints (ZeF xs ys N C i j (Zb9 xs ys N C R i)))) (fun q _=>C-(intOf q).toNat);case atStart=>exact ⟨Keep.refl _ _,0,Nat.zero_le _,rfl,hO⟩
   case round=>
    clear hO a0 a1 a2 b0 b1 b2;obtain ⟨hKi,j,hj,rfl,hO⟩:=hrel;obtain ⟨⟨b0,b1,b2⟩, -⟩:=(bBr.keep hKi nB).three;obtain ⟨⟨a0,a1,a2⟩, -⟩:=(bAr.keep hKi nA).three;by_cases hjn:j<C
    ·skip
     obtain ⟨wp,rfl⟩: ∃ wp:World,wp=wr:=⟨_,rfl⟩;go_wp2;go_loopw [8,9] (fun sv q wr=>(∃ d,wr=wp.drewN d)/\ ∃ k:Nat,k<=N/\q=Yv Yi k/\sv=Yv Yi (ZbX xs ys N C i j k)) (fun _ q _=>N-(intOf q).toNat);case atStart=>exact ⟨⟨0,rfl⟩,0,Nat.zero_le _,rfl,rfl⟩
     case round=>
      obtain ⟨⟨d,rfl⟩,k,hk,rfl,rfl⟩:=hrel;by_cases hkn:k<N
      ·have hKw:Keep (fun q=>blk am≠some q) w5 wp:=hK.trans hKi;have hNC:=ZfQ hkn hjn;have hRN:=ZfQ hin hkn;obtain ⟨ix,hix⟩: ∃ ix,ix=i*N+k:=⟨_,rfl⟩;obtain ⟨iy,hiy⟩: ∃ iy,iy=k*C+j:=⟨_,rfl⟩;obtain ⟨ba,oa,x,rfl,hxx,hxr,_,_,hxc⟩:=(hrA.keep hKw fun _ _ h=>h).at (k:=ix) (by rw[←Hl.out,Hx.out,hix];exact hRN);obtain ⟨bb,ob,y,rfl,hyy,hyr,_,_,hyc⟩:=(hrB.keep hKw fun _ _ h=>h).at (k:=iy) (by rw[←Hl'.out,Hy.out,hiy];exact hNC);have hltx:ix<na:=(by rw[←Hl.out,Hx.out,hix];exact hRN);have hlty:iy<nb:=(by rw[←Hl'.out,Hy.out,hiy];exact hNC);have hca:=hrA.row.le;have hcb:=hrB.row.le;have hma:=hrA.row.max;have hmb:=hrB.row.max;unfold maxLen at hma hmb;have u1:=Zaf (i:=i) (c:=N) (by omega) (by omega);have u2:=ZaI (i:=i) (c:=N) (j:=k) (by omega) (by omega) (by omega) hix;have u3:=Zaf (i:=k) (c:=C) (by omega) (by omega);have u4:=ZaI (i:=k) (c:=C) (j:=j) (by omega) (by omega) (by omega) hiy;have hxn:=nx.getD ix;have hyn:=ny.getD iy;rw[getD_at hxx] at hxn;rw[getD_at hyy] at hyn;have hxy:=ZfP hxn hyn;have hd:=Zec nx ny N C i j k;have hdk:=hid (show ZbX xs ys N C i j (k+1)=ZbX xs ys N C i j k+x*y by conv=>{lhs;unfold ZbX};rw[←hix, ←hiy,getD_at hxx,getD_at hyy]);clear hix hiy hNC hRN hxx hyy hxn hyn;obtain ⟨p,hp⟩: ∃ p,p=x*y:=⟨_,rfl⟩;rw[←hp] at hxy hdk;have u5:IntKind.i64.wrap (x*y)=p:=(by rw[←hp];exact IntWalk.i64_in _ (by omega));clear hp;generalize ZbX xs ys N C i j k=dv at *;have u6:IntKind.i64.wrap (dv+p)=dv+p:=IntWalk.i64_in _ (by omega);go_wp2
       go_quiet (fail)
       go_wp2;go_roundw;case rel=>exact ⟨⟨_,rfl⟩,k+1,by omega,by go_num,by rw[hdk.out]⟩
       case measure=>simp[intOf];omega
      ·have hkN:k=N:=(by omega);subst hkN;have hd:=Zec nx ny k C i j k;have hdI:I64 (ZbX xs ys k C i j k):=(by unfold I64;omega);obtain ⟨ix,hix⟩: ∃ ix,ix=i*C+j:=⟨_,rfl⟩;have hlt:ix<R*C:=(by rw[hix];exact ZfQ hin hjn);have u3:=Zaf (i:=i) (c:=C) (by omega) (by omega);have u4:=ZaI (i:=i) (c:=C) (j:=j) (by omega) (by omega) (by omega) hix;have hML:=hid (show (ZeF xs ys k C i j (Zb9 xs ys k C R i)).length=R*C by rw[ZhZ,ZgO]);have hGd:Grow wp (wp.drewN d):=(Grow.refl wp).drewN d;have hOd:=hO.grow hGd;have bMr:=(bM.keep hKi nM).grow hGd;obtain ⟨⟨m0,m1,m2⟩, -⟩:=bMr.three;obtain ⟨⟨x0,x1,x2⟩, -⟩:=((bBr.keep hKi nB).grow hGd).three;have hmr:=hid (show ZeF xs ys k C i (j+1) (Zb9 xs ys k C R i)=(ZeF xs ys k C i j (Zb9 xs ys k C R i)).set ix (ZbX xs ys k C i j k) by rw[hix];rfl);clear hix hO;cases am with
       |none=>have:=hOd.nil rfl;have:=hOd.le;omega
       |some p=>
        have hp:=(hOd.block p rfl).1;obtain ⟨pb,po,ps⟩:=p;simp only[Addr.mk.injEq,true_and] at hp;obtain ⟨rfl,rfl⟩:=hp;obtain ⟨cv,hcv⟩: ∃ cv,(ints (ZeF xs ys k C i j (Zb9 xs ys k C R i)))[ix]? =some cv:=⟨_,List.getElem?_eq_getElem (by rw[List.length_map,hML.out];exact hlt)⟩;have hce:=hOd.cell hcv;have hfr:=hOd.free ix;simp only at hce hfr;clear hcv;have hO8:=hOd.set ix (Yv Yi (ZbX xs ys k C i j k));have hK8:Keep (fun q=>blk (some (⟨pb,0,none⟩:Addr))≠some q) wo ((wp.drewN d).setCell ⟨pb,ix,none⟩ (Yv Yi (ZbX xs ys k C i j k))):=(hKi.trans hGd.any).setCell (p:=⟨pb,ix,none⟩) (fun _ e=>e rfl) _;clear hOd;generalize hdv:ZbX xs ys k C i j k=dv at *;have Hdv:=hid hdv;clear hdv;unfold I64 at hdI;go_wp2;go_roundw;case rel=>exact ⟨hK8,j+1,by omega,by go_num,by rw[hmr.out,ints_set];exact hO8⟩
        case measure=>simp[intOf];omega
    ·have hjC:j=C:=(by omega);subst hjC;go_wp2;go_roundw;case rel=>exact ⟨hK.trans hKi,bM.keep hKi nM,i+1,by omega,by go_num,hO⟩
     case measure=>simp[intOf];omega
  ·have hi':i=R:=(by omega);subst hi';have bZr:=bZ.keep hK nZ;obtain ⟨⟨m0,m1,m2⟩, -⟩:=bM.three;obtain ⟨⟨z0,z1,z2⟩,g0,g1,g2⟩:=bZr.three;have hGr:Grow w wr:=(hG3.trans hG5).keep hK fun q hq e=>(by have:=hB5 q e;omega);have hle:w.heap.size<=w.heap.size+2:=(by omega);go_wp2;have hKs:Keep (fun q=>q≠w.heap.size+2) wr (((wr.setCell ⟨w.heap.size+2,0,none⟩ (Yv Yi (i:Int))).setCell ⟨w.heap.size+2,1,none⟩ (Yv Yi (C:Int))).setCell ⟨w.heap.size+2,2,none⟩ (.slice am (i*C) (i*C))):=
    (((Keep.refl _ wr).setCell (fun _ e=>e rfl) _).setCell (fun _ e=>e rfl) _).setCell (fun _ e=>e rfl) _
   refine ZB Zb rfl rfl rfl (((bZr.set 0 _).set 1 _).set 2 _) ⟨am,rfl,hO.keep hKs (fun g hg _ e=>by have:=hB5 g hg;omega),(fun g hg=>by have:=hB5 g hg;omega), ?_⟩;exact hGr.keep hKs (fun q hq e=>by omega)
def RdCells (w:World) (S:Nat->Prop) (vs:List Value) (xss:List (List Int)):Prop:=
 ∀ (i:Nat) (xs:List Int),xss[i]? =some xs-> ∃ b c,vs[i]? =some (Value.slice b xs.length c)/\RdI w S b xs.length c xs
theorem RdCells.keep (h:RdCells w S vs xss) (hk:Keep T w w') (hST: ∀ b,b<w.heap.size->S b->T b):RdCells w' S vs xss:=fun i xs hi=>by
 obtain ⟨b,c,h3,h4⟩:=h i xs hi;exact ⟨b,c,h3,h4.keep hk hST⟩
theorem RdCells.grow (h:RdCells w S vs xss) (hk:Grow w w'):RdCells w' S vs xss:=h.keep hk fun _ _ _=>trivial
theorem RdCells.weak (h:RdCells w S vs xss) (hST: ∀ b,b<w.heap.size->S b->T b):RdCells w T vs xss:=fun i xs hi=>by
 obtain ⟨b,c,h3,h4⟩:=h i xs hi;exact ⟨b,c,h3,h4.weak hST⟩
theorem RdCells.nilw:RdCells w S [] []:=fun i xs h=>by simp at h
theorem RdCells.append {us:List Value} {yss:List (List Int)} (h:RdCells w S vs xss) (h':RdCells w S us yss) (hl:vs.length=xss.length):RdCells w S (vs++us) (xss++yss):=fun i xs hi=>by
 by_cases hlt:i<xss.length
 ·rw[List.getElem?_append_left hlt] at hi;obtain ⟨b,c,h1,h2⟩:=h i xs hi;exact ⟨b,c,by rw[List.getElem?_append_left (by omega)];exact h1,h2⟩
 ·rw[List.getElem?_append_right (by omega)] at hi;obtain ⟨b,c,h1,h2⟩:=h' _ xs hi;exact ⟨b,c,by rw[List.getElem?_append_right (by omega),hl];exact h1,h2⟩
theorem Row.pre {n:Nat} (h:Row w S sz a n cap cs) (hk:k<=n):Row w S sz a k cap (cs.take (k*sz)):=by
 have h1:=h.len;have h2:=h.le;have h3:k*sz<=n*sz:=Nat.mul_le_mul_right _ hk;refine ⟨by rw[List.length_take];omega,by omega,h.max,h.nil,fun hne=> ?_⟩;have hcs:cs≠[]:=by intro e;subst e;simp at hne
 obtain ⟨b,off,rfl,hS,hc⟩:=h.addr hcs;refine ⟨b,off,rfl,hS,fun j c hj=>hc j c ?_⟩;rw[List.getElem?_take] at hj;split at hj
 ·exact hj
 ·cases hj
theorem Inner.rdCells {g:Option Nat} (h:Inner w F g vs xss) (hS: ∀ b,F b->g≠some b->S b):RdCells w S vs xss:=fun i xs hi=>by
 obtain ⟨b,c,h1,h2,h3,h4⟩:=h.each i xs hi;exact ⟨b,c,h1,h2.rdI (fun q hq=>hS q (h4 q hq).1 (h4 q hq).2) h3⟩
def firstIdx {α:Type} (f:α->Bool):List α->Int
 |[]=> -1
 |x::r=>if f x=true then 0 else (if firstIdx f r<0 then -1 else firstIdx f r+1)
theorem Zce (f:α->Bool) (l:List α): -1<=firstIdx f l/\firstIdx f l<l.length:=by
 induction l with
 |nil=>simp[firstIdx]
 |cons x r ih=>simp only[firstIdx,List.length_cons];split<;>(try split)<;>omega
theorem ZcP {α:Type} {f:α->Bool}: ∀ {l:List α} {k:Nat} {x:α},(∀ y∈l.take k,f y=false)->l[k]? =some x->f x=true->firstIdx f l=k
 |[],k,x,_,h,_=>by simp at h
 |y::r,0,x,_,h,hf=>by simp at h;subst h;simp[firstIdx,hf]
 |y::r,k+1,x,h,hk,hf=>by have h1:=h y (by simp);simp at hk;have ih:=ZcP (f:=f) (l:=r) (k:=k) (fun z hz=>h z (by simp[hz])) hk hf;simp only[firstIdx,h1,ih];simp only[Bool.false_eq_true,if_false];rw[if_neg (by omega)];simp
theorem Zes {α:Type} {f:α->Bool}: ∀ {l:List α},(∀ y∈l,f y=false)->firstIdx f l= -1
 |[],_=>rfl
 |x::r,h=>by simp only[firstIdx,h x (by simp),Zes (l:=r) (fun y hy=>h y (by simp[hy]))];simp
theorem ZaT {α:Type} (f:α->Bool): ∀ l:List α,0<=firstIdx f l↔l.any f=true
 |[]=>by simp[firstIdx]
 |x::r=>by
  have ih:=ZaT f r;have e:firstIdx f (x::r)=if f x=true then 0 else (if firstIdx f r<0 then -1 else firstIdx f r+1):=rfl;rw[e,List.any_cons,Bool.or_eq_true];by_cases hx:f x=true
  ·rw[if_pos hx];simp[hx]
  ·rw[if_neg hx];constructor
   ·intro h;exact .inr (ih.1 (by split at h<;>omega))
   ·intro h;have:=ih.2 (h.resolve_left hx);rw[if_neg (by omega)];omega
theorem Zj3 (f:α->Bool) (l:List α):decide (0<=firstIdx f l)=l.any f:=by
 rw[Bool.eq_iff_iff,decide_eq_true_eq];exact ZaT f l
theorem ZeP (h:Zai A B=true): ∃ R N C:Nat,A.rows=R/\A.cols=N/\B.rows=N/\B.cols=C/\R<=24/\N<=24/\C<=24/\A.cells.length=R*N/\B.cells.length=N*C/\NumL A.cells/\NumL B.cells:=by
 unfold Zai at h;simp only[Bool.and_eq_true,beq_iff_eq] at h;obtain ⟨⟨h1,h2⟩,h3⟩:=h;obtain ⟨R,N,r1,r2,r3,r4,r5,r6⟩:=ZD h1;obtain ⟨N',C,s1,s2,s3,s4,s5,s6⟩:=ZD h2;have:N'=N:=by omega
 subst this;exact ⟨R,N',C,r1,r2,s1,s2,r3,r4,s4,r5,s5,r6,s6⟩
theorem OM.zero:OM w F (.agg #[Yv Yi 0,Yv Yi 0, .slice none 0 0]) {rows:=0,cols:=0,cells:=[]}:=
 ⟨none,0,0,rfl,Own.nilw,(fun x hx=>by cases hx),(fun g hg=>by simp at hg),by simp[I64],by simp[I64]⟩
theorem ZeL {R N C:Nat} (hr:A.rows=R) (hn:A.cols=N) (hc:B.cols=C):(ZbD A B).cells=Zb9 A.cells B.cells N C R R:=by
 unfold ZbD;simp only[hr,hn,hc,Int.toNat_natCast]
theorem Zki (hF:Zai A B=true): ∀ x∈(ZbD A B).cells,I64 x:=by
 obtain ⟨R,N,C,r1,r2,r3,r4,h1,h2,h3,_,_,n1,n2⟩:=ZeP hF;rw[ZeL r1 r2 r4];exact Zjs n1 n2 h2 C R R
theorem Zhz (hF:Zai A B=true):bdM (ZbD A B)<=576:=by
 obtain ⟨R,N,C,r1,r2,r3,r4,h1,h2,h3,_,_,n1,n2⟩:=ZeP hF;unfold bdM;rw[ZeL r1 r2 r4,ZgO];exact Nat.mul_le_mul h1 h3
theorem Zl9 (h:VM w S u A) (h':VM w T v B) (hF:Zai A B=true):
  Calls Tryz.prog 120 #[u,v] w fun e w'=> ∃ r,e= .returned r/\OM w' (New w w') r (ZbD A B)/\Grow w w':=by
 obtain ⟨aa,na,ca,rfl,hA,hAr,hAc⟩:=h;obtain ⟨ab,nb,cb,rfl,hB,hBr,hBc⟩:=h';have hx:=Zki hF;obtain ⟨R,N,C,r1,r2,r3,r4,h1,h2,h3,l1,l2,n1,n2⟩:=ZeP hF;rw[r1,r2,r3,r4];refine (ZpF aa ab na ca nb cb R N C _ _ w hA hB h1 h2 h3 l1 l2 n1 n2).mono ?_;rintro e w' ⟨am,rfl,hO,hB5,hG⟩;refine ⟨_,rfl,⟨am,R*C,R*C, ?_, ?_,hx,fun g hg=>⟨hB5 g hg,hO.lt hg⟩,hAr,hBc⟩,hG⟩
 ·simp only[ZbD,r1,r4]
 ·rw[ZeL r1 r2 r4];exact hO
theorem Zjj (h:VM w S u A) (h':VM w T v B) (hb:bdM A<=2097152) (hb':bdM B<=2097152):
  Calls Tryz.prog 91 #[u,v] w fun e w'=> ∃ r,e= .returned (.tuple #[r, .bool (Zag A B)])/\OM w' (New w w') r (Zaw A B)/\Grow w w':=by
 obtain ⟨aa,na,ca,rfl,hA,hAr,hAc⟩:=h;obtain ⟨ab,nb,cb,rfl,hB,hBr,hBc⟩:=h';have vA:VM w S (.agg #[Yv Yi A.rows,Yv Yi A.cols, .slice aa na ca]) A:=⟨aa,na,ca,rfl,hA,hAr,hAc⟩;have vB:VM w T (.agg #[Yv Yi B.rows,Yv Yi B.cols, .slice ab nb cb]) B:=⟨ab,nb,cb,rfl,hB,hBr,hBc⟩;obtain ⟨w3,hw3,hG3, -, -, -, -⟩:=al3 w #[Yv Yi A.rows,Yv Yi A.cols, .slice aa na ca] 28 #[Yv Yi B.rows,Yv Yi B.cols, .slice ab nb cb] 28 #[Yv Yi 0,Yv Yi 0, .slice none 0 0] 28;have hs3:w3.heap.size=w.heap.size+3:=by rw[hw3];simp
 have bA:Blk w3 w.heap.size #[Yv Yi A.rows,Yv Yi A.cols, .slice aa na ca] 28:=by rw[hw3];exact ((Blk.new w _ _).alloc _).alloc _
 have bB:Blk w3 (w.heap.size+1) #[Yv Yi B.rows,Yv Yi B.cols, .slice ab nb cb] 28:=by rw[hw3];exact (Blk.newAt _ _ _ (by simp)).alloc _
 have bZ:Blk w3 (w.heap.size+2) #[Yv Yi 0,Yv Yi 0, .slice none 0 0] 28:=by rw[hw3];exact Blk.newAt _ _ _ (by simp)
 obtain ⟨⟨a0,a1,a2⟩, -⟩:=bA.three;rw[hw3] at a0 a1 a2;have Hw3:=hid hw3;clear hw3;cases hMA:Zg A with
 |false=>
  have hF:Zai A B=false:=by unfold Zai;rw[hMA];rfl
  have he:Zag A B=false:=by unfold Zag;rw[hF];rfl
  have he2:Zaw A B={rows:=0,cols:=0,cells:=[]}:=by unfold Zaw;rw[hF];rfl
  rw[he,he2];have HMA:=hid hMA;clear hMA hF he he2;go_enter Tryz.func91,Tryz.ntmps91;go_wp2_with fail;rw[←Hw3.out];refine (ZP (vA.grow hG3) hb).mono ?_;rintro e w4 ⟨rfl,hG4⟩;rw[HMA.out];have hG:=hG3.trans hG4;replace bZ:=bZ.grow hG4;obtain ⟨⟨z0,z1,z2⟩,g0,g1,g2⟩:=bZ.three;go_wp2;have hle:w.heap.size<=w.heap.size+2:=by omega
  refine Zf Zb rfl rfl rfl (((bZ.set 0 _).set 1 _).set 2 _) ⟨_,rfl,OM.zero, ?_⟩;exact ((hG.setCell hle _).setCell hle _).setCell hle _
 |true=>
  have HMA:=hid hMA;clear hMA;cases hMB:Zg B with
  |false=>have hF:Zai A B=false:=(by unfold Zai;rw[HMA.out,hMB];rfl);have he:Zag A B=false:=(by unfold Zag;rw[hF];rfl);have he2:Zaw A B={rows:=0,cols:=0,cells:=[]}:=(by unfold Zaw;rw[hF];rfl);rw[he,he2];have HMB:=hid hMB;clear hMB hF he he2;go_enter Tryz.func91,Tryz.ntmps91;go_wp2_with fail;rw[←Hw3.out];refine (ZP (vA.grow hG3) hb).mono ?_;rintro e w4 ⟨rfl,hG4⟩;rw[HMA.out];clear a0 a1 a2;obtain ⟨⟨b0,b1,b2⟩, -⟩:=(bB.grow hG4).three;go_wp2_with fail;refine (ZP ((vB.grow hG3).grow hG4) hb').mono ?_;rintro e w5 ⟨rfl,hG5⟩;rw[HMB.out];clear b0 b1 b2;have hG:=(hG3.trans hG4).trans hG5;replace bA:=(bA.grow hG4).grow hG5;replace bB:=(bB.grow hG4).grow hG5;replace bZ:=(bZ.grow hG4).grow hG5;obtain ⟨⟨a0,a1,a2⟩, -⟩:=bA.three;obtain ⟨⟨b0,b1,b2⟩, -⟩:=bB.three;obtain ⟨⟨z0,z1,z2⟩,g0,g1,g2⟩:=bZ.three;go_wp2;have hle:w.heap.size<=w.heap.size+2:=(by omega);refine Zf Zb rfl rfl rfl (((bZ.set 0 _).set 1 _).set 2 _) ⟨_,rfl,OM.zero, ?_⟩;exact ((hG.setCell hle _).setCell hle _).setCell hle _
  |true=>
   have HMB:=hid hMB;clear hMB;by_cases hcr:A.cols=B.rows
   ·have hF:Zai A B=true:=(by unfold Zai;rw[HMA.out,HMB.out];simp[hcr]);have he:Zag A B=Zg (ZbD A B):=(by unfold Zag;rw[hF];rfl);have he2:Zaw A B=okM (ZbD A B):=(by unfold Zaw;rw[if_pos hF]);rw[he,he2];have q1:(A.cols==B.rows)=true:=(by simp[hcr]);have q2:(A.cols !=B.rows)=false:=(by simp[hcr]);have HF:=hid hF;clear hF he he2 hcr;go_enter Tryz.func91,Tryz.ntmps91;go_wp2_with fail;rw[←Hw3.out];refine (ZP (vA.grow hG3) hb).mono ?_;rintro e w4 ⟨rfl,hG4⟩;rw[HMA.out];clear a0 a1 a2;obtain ⟨⟨b0,b1,b2⟩, -⟩:=(bB.grow hG4).three;go_wp2_with fail;refine (ZP ((vB.grow hG3).grow hG4) hb').mono ?_;rintro e w5 ⟨rfl,hG5⟩;rw[HMB.out];clear b0 b1 b2;have hG:=(hG3.trans hG4).trans hG5;replace bA:=(bA.grow hG4).grow hG5;replace bB:=(bB.grow hG4).grow hG5;replace bZ:=(bZ.grow hG4).grow hG5;obtain ⟨⟨a0,a1,a2⟩, -⟩:=bA.three;obtain ⟨⟨b0,b1,b2⟩, -⟩:=bB.three;obtain ⟨⟨z0,z1,z2⟩,g0,g1,g2⟩:=bZ.three;go_wp2_with fail;refine (Zl9 ((vA.grow hG)) ((vB.grow hG)) HF.out).mono ?_;rintro e w6 ⟨m6,rfl,hO6,hG6⟩;go_wp2_with fail;refine (Zh2 hO6 (by have:=Zhz HF.out;omega)).mono ?_;rintro e w7 ⟨m7,rfl,hO7,hG7⟩;obtain ⟨a7,n7,c7,rfl,o7,x7,f7,i7,j7⟩:=hO7;have hs5:=hG.size;have hs6:=hG6.size;have hs7:=hG7.size;have hz5:=bZ.lt;replace bZ:=((bZ.grow hG6).grow hG7).alloc (.cells #[Yv Yi (okM (ZbD A B)).rows,Yv Yi (okM (ZbD A B)).cols, .slice a7 n7 c7] 28);clear a0 a1 a2 b0 b1 b2 z0 z1 z2 g0 g1 g2;obtain ⟨⟨z0,z1,z2⟩,g0,g1,g2⟩:=bZ.three;go_wp2;have hle:w.heap.size<=w.heap.size+2:=(by omega);have hGa:Grow w (w7.alloc (.cells #[Yv Yi (okM (ZbD A B)).rows,Yv Yi (okM (ZbD A B)).cols, .slice a7 n7 c7] 28)):=((hG.trans hG6).trans hG7).alloc _ _;have hK:Keep (fun q=>q≠w.heap.size+2) w7 (w7.alloc (.cells #[Yv Yi (okM (ZbD A B)).rows,Yv Yi (okM (ZbD A B)).cols, .slice a7 n7 c7] 28)):=((Grow.refl w7).alloc _ _).any;refine Zf Zb rfl rfl rfl (((bZ.set 0 _).set 1 _).set 2 _) ⟨_,rfl,⟨a7,n7,c7,rfl, ?_,x7, ?_,i7,j7⟩,((hGa.setCell hle _).setCell hle _).setCell hle _⟩
    ·exact o7.keep (((hK.setCell (fun _ e=>e rfl) _).setCell (fun _ e=>e rfl) _).setCell (fun _ e=>e rfl) _) (fun g hg _ e=>by have:=(f7 g hg).1;omega)
    ·intro g hg;have h1:=o7.lt hg;have h2:=(f7 g hg).1;exact ⟨by omega,by simp;omega⟩
   ·have hF:Zai A B=false:=(by unfold Zai;rw[HMA.out,HMB.out];simp[hcr]);have he:Zag A B=false:=(by unfold Zag;rw[hF];rfl);have he2:Zaw A B={rows:=0,cols:=0,cells:=[]}:=(by unfold Zaw;rw[hF];rfl);rw[he,he2];have q1:(A.cols==B.rows)=false:=(by simp[hcr]);have q2:(A.cols !=B.rows)=true:=(by simp[hcr]);clear hF he he2 hcr;go_enter Tryz.func91,Tryz.ntmps91;go_wp2_with fail;rw[←Hw3.out];refine (ZP (vA.grow hG3) hb).mono ?_;rintro e w4 ⟨rfl,hG4⟩;rw[HMA.out];clear a0 a1 a2;obtain ⟨⟨b0,b1,b2⟩, -⟩:=(bB.grow hG4).three;go_wp2_with fail;refine (ZP ((vB.grow hG3).grow hG4) hb').mono ?_;rintro e w5 ⟨rfl,hG5⟩;rw[HMB.out];clear b0 b1 b2;have hG:=(hG3.trans hG4).trans hG5;replace bA:=(bA.grow hG4).grow hG5;replace bB:=(bB.grow hG4).grow hG5;replace bZ:=(bZ.grow hG4).grow hG5;obtain ⟨⟨a0,a1,a2⟩, -⟩:=bA.three;obtain ⟨⟨b0,b1,b2⟩, -⟩:=bB.three;obtain ⟨⟨z0,z1,z2⟩,g0,g1,g2⟩:=bZ.three;go_wp2;have hle:w.heap.size<=w.heap.size+2:=(by omega);refine Zf Zb rfl rfl rfl (((bZ.set 0 _).set 1 _).set 2 _) ⟨_,rfl,OM.zero, ?_⟩;exact ((hG.setCell hle _).setCell hle _).setCell hle _
theorem Zhb (h:VM w S u A) (h':VM w T v B) (hb:bdM A<=2097152) (hb':bdM B<=2097152):
  Calls Tryz.prog 82 #[u,v] w fun e w'=> ∃ r,e= .returned (.tuple #[r, .bool (Zag A B)])/\OM w' (New w w') r (Zaw A B)/\Grow w w':=by
 obtain ⟨aa,na,ca,rfl,hA,hAr,hAc⟩:=h;obtain ⟨ab,nb,cb,rfl,hB,hBr,hBc⟩:=h';have vA:VM w S (.agg #[Yv Yi A.rows,Yv Yi A.cols, .slice aa na ca]) A:=⟨aa,na,ca,rfl,hA,hAr,hAc⟩;have vB:VM w T (.agg #[Yv Yi B.rows,Yv Yi B.cols, .slice ab nb cb]) B:=⟨ab,nb,cb,rfl,hB,hBr,hBc⟩;obtain ⟨w3,hw3,hG3, -, -, -, -⟩:=al3 w #[Yv Yi A.rows,Yv Yi A.cols, .slice aa na ca] 28 #[Yv Yi B.rows,Yv Yi B.cols, .slice ab nb cb] 28 #[Yv Yi 0,Yv Yi 0, .slice none 0 0] 28;have hs3:w3.heap.size=w.heap.size+3:=by rw[hw3];simp
 have bA:Blk w3 w.heap.size #[Yv Yi A.rows,Yv Yi A.cols, .slice aa na ca] 28:=by rw[hw3];exact ((Blk.new w _ _).alloc _).alloc _
 have bB:Blk w3 (w.heap.size+1) #[Yv Yi B.rows,Yv Yi B.cols, .slice ab nb cb] 28:=by rw[hw3];exact (Blk.newAt _ _ _ (by simp)).alloc _
 have bZ:Blk w3 (w.heap.size+2) #[Yv Yi 0,Yv Yi 0, .slice none 0 0] 28:=by rw[hw3];exact Blk.newAt _ _ _ (by simp)
 obtain ⟨⟨a0,a1,a2⟩, -⟩:=bA.three;rw[hw3] at a0 a1 a2;have Hw3:=hid hw3;clear hw3;cases hMA:Zg A with
 |false=>
  have hF:Zai A B=false:=by unfold Zai;rw[hMA];rfl
  have he:Zag A B=false:=by unfold Zag;rw[hF];rfl
  have he2:Zaw A B={rows:=0,cols:=0,cells:=[]}:=by unfold Zaw;rw[hF];rfl
  rw[he,he2];have HMA:=hid hMA;clear hMA hF he he2;go_enter Tryz.func82,Tryz.ntmps82;go_wp2_with fail;rw[←Hw3.out];refine (ZV (vA.grow hG3) hb).mono ?_;rintro e w4 ⟨rfl,hG4⟩;rw[HMA.out];have hG:=hG3.trans hG4;replace bZ:=bZ.grow hG4;obtain ⟨⟨z0,z1,z2⟩,g0,g1,g2⟩:=bZ.three;go_wp2;have hle:w.heap.size<=w.heap.size+2:=by omega
  refine Zf Zb rfl rfl rfl (((bZ.set 0 _).set 1 _).set 2 _) ⟨_,rfl,OM.zero, ?_⟩;exact ((hG.setCell hle _).setCell hle _).setCell hle _
 |true=>
  have HMA:=hid hMA;clear hMA;cases hMB:Zg B with
  |false=>have hF:Zai A B=false:=(by unfold Zai;rw[HMA.out,hMB];rfl);have he:Zag A B=false:=(by unfold Zag;rw[hF];rfl);have he2:Zaw A B={rows:=0,cols:=0,cells:=[]}:=(by unfold Zaw;rw[hF];rfl);rw[he,he2];have HMB:=hid hMB;clear hMB hF he he2;go_enter Tryz.func82,Tryz.ntmps82;go_wp2_with fail;rw[←Hw3.out];refine (ZV (vA.grow hG3) hb).mono ?_;rintro e w4 ⟨rfl,hG4⟩;rw[HMA.out];clear a0 a1 a2;obtain ⟨⟨b0,b1,b2⟩, -⟩:=(bB.grow hG4).three;go_wp2_with fail;refine (ZV ((vB.grow hG3).grow hG4) hb').mono ?_;rintro e w5 ⟨rfl,hG5⟩;rw[HMB.out];clear b0 b1 b2;have hG:=(hG3.trans hG4).trans hG5;replace bA:=(bA.grow hG4).grow hG5;replace bB:=(bB.grow hG4).grow hG5;replace bZ:=(bZ.grow hG4).grow hG5;obtain ⟨⟨a0,a1,a2⟩, -⟩:=bA.three;obtain ⟨⟨b0,b1,b2⟩, -⟩:=bB.three;obtain ⟨⟨z0,z1,z2⟩,g0,g1,g2⟩:=bZ.three;go_wp2;have hle:w.heap.size<=w.heap.size+2:=(by omega);refine Zf Zb rfl rfl rfl (((bZ.set 0 _).set 1 _).set 2 _) ⟨_,rfl,OM.zero, ?_⟩;exact ((hG.setCell hle _).setCell hle _).setCell hle _
  |true=>
   have HMB:=hid hMB;clear hMB;by_cases hcr:A.cols=B.rows
   ·have hF:Zai A B=true:=(by unfold Zai;rw[HMA.out,HMB.out];simp[hcr]);have he:Zag A B=Zg (ZbD A B):=(by unfold Zag;rw[hF];rfl);have he2:Zaw A B=okM (ZbD A B):=(by unfold Zaw;rw[if_pos hF]);rw[he,he2];have q1:(A.cols==B.rows)=true:=(by simp[hcr]);have q2:(A.cols !=B.rows)=false:=(by simp[hcr]);have HF:=hid hF;clear hF he he2 hcr;go_enter Tryz.func82,Tryz.ntmps82;go_wp2_with fail;rw[←Hw3.out];refine (ZV (vA.grow hG3) hb).mono ?_;rintro e w4 ⟨rfl,hG4⟩;rw[HMA.out];clear a0 a1 a2;obtain ⟨⟨b0,b1,b2⟩, -⟩:=(bB.grow hG4).three;go_wp2_with fail;refine (ZV ((vB.grow hG3).grow hG4) hb').mono ?_;rintro e w5 ⟨rfl,hG5⟩;rw[HMB.out];clear b0 b1 b2;have hG:=(hG3.trans hG4).trans hG5;replace bA:=(bA.grow hG4).grow hG5;replace bB:=(bB.grow hG4).grow hG5;replace bZ:=(bZ.grow hG4).grow hG5;obtain ⟨⟨a0,a1,a2⟩, -⟩:=bA.three;obtain ⟨⟨b0,b1,b2⟩, -⟩:=bB.three;obtain ⟨⟨z0,z1,z2⟩,g0,g1,g2⟩:=bZ.three;go_wp2_with fail;have hx:=Zki HF.out;have hbd:=Zhz HF.out;obtain ⟨R,N,C,r1,r2,r3,r4,hR,hN,hC,l1,l2,n1,n2⟩:=ZeP HF.out;have hcells:=hid (ZeL r1 r2 r4);rw[r1,r2] at bA;rw[r1] at a0;rw[r2] at a1;rw[r3,r4] at bB;rw[r3] at b0;rw[r4] at b1;simp only[r1,r2,r3,r4];refine (Zdh R C _ (by omega) (by omega)).mono ?_;rintro e w6 ⟨am,rfl,hO,hB6,hG6⟩;have hs6:=hG6.size;have hz5:=bZ.lt;have hrA:RdI w6 (fun q=>blk am≠some q) aa na ca A.cells:=((hA.grow hG).weak (T:=fun b=>b<w5.heap.size) (fun _ hb _=>hb)).grow hG6 |>.weak fun b _ hb e=>(by have:=hB6 b e;omega);have hrB:RdI w6 (fun q=>blk am≠some q) ab nb cb B.cells:=((hB.grow hG).weak (T:=fun b=>b<w5.heap.size) (fun _ hb _=>hb)).grow hG6 |>.weak fun b _ hb e=>(by have:=hB6 b e;omega);have nA:blk am≠some w.heap.size:=fun e=>(by have:=hB6 _ e;omega);have nB:blk am≠some (w.heap.size+1):=fun e=>(by have:=hB6 _ e;omega);have nZ:blk am≠some (w.heap.size+2):=fun e=>(by have:=hB6 _ e;omega);have nM:blk am≠some w6.heap.size:=fun e=>(by have:=hO.lt e;omega);replace bA:=bA.grow hG6;replace bB:=bB.grow hG6;replace bZ:=bZ.grow hG6;have hRC:R*C<=24*24:=Nat.mul_le_mul hR hC;have bM0:=Blk.newAt w6 #[Yv Yi (R:Int),Yv Yi (C:Int), .slice am (R*C) (R*C)] 28 rfl;have hGb:Grow w6 (w6.alloc (.cells #[Yv Yi (R:Int),Yv Yi (C:Int), .slice am (R*C) (R*C)] 28)):=(Grow.refl _).alloc _ _;have hla:=hA.len;have hlb:=hB.len;have Hx:=hid l1;have Hy:=hid l2;have Hl:=hid hla;have Hl':=hid hlb;clear l1 l2 hla hlb a0 a1 a2 b0 b1 b2 z0 z1 z2 g0 g1 g2 Hw3;go_wp2;go_loopw [7] (fun q wr=>Keep (fun q=>blk am≠some q) w6 wr/\Blk wr w6.heap.size #[Yv Yi (R:Int),Yv Yi (C:Int), .slice am (R*C) (R*C)] 28/\ ∃ i:Nat,i<=R/\q=Yv Yi i/\Own wr 3 1 am (R*C) (R*C) (ints (Zb9 A.cells B.cells N C R i))) (fun q _=>R-(intOf q).toNat);case atStart=>exact ⟨hGb.any,bM0,0,Nat.zero_le _,rfl,hO.grow hGb⟩
    case round=>
     clear bM0 hO hGb;obtain ⟨hK,bM,i,hi,rfl,hO⟩:=hrel;have bAr:=bA.keep hK nA;obtain ⟨⟨a0,a1,a2⟩, -⟩:=bAr.three;by_cases hin:i<R
     ·have bBr:=bB.keep hK nB;obtain ⟨⟨b0,b1,b2⟩, -⟩:=bBr.three;obtain ⟨wo,rfl⟩: ∃ wo:World,wo=wr:=⟨_,rfl⟩;go_wp2;go_loopw [8] (fun q wr=>Keep (fun q=>blk am≠some q) wo wr/\ ∃ j:Nat,j<=C/\q=Yv Yi j/\Own wr 3 1 am (R*C) (R*C) (ints (ZeF A.cells B.cells N C i j (Zb9 A.cells B.cells N C R i)))) (fun q _=>C-(intOf q).toNat);case atStart=>exact ⟨Keep.refl _ _,0,Nat.zero_le _,rfl,hO⟩
      case round=>
       clear hO a0 a1 a2 b0 b1 b2;obtain ⟨hKi,j,hj,rfl,hO⟩:=hrel;have bBi:=bBr.keep hKi nB;have bAi:=bAr.keep hKi nA;obtain ⟨⟨b0,b1,b2⟩, -⟩:=bBi.three;obtain ⟨⟨a0,a1,a2⟩, -⟩:=bAi.three;by_cases hjn:j<C
       ·skip
        obtain ⟨wp,rfl⟩: ∃ wp:World,wp=wr:=⟨_,rfl⟩;go_wp2;go_loopw [9,10] (fun sv q wr=>Grow wp wr/\ ∃ k:Nat,k<=N/\q=Yv Yi k/\sv=Yv Yi (ZbX A.cells B.cells N C i j k)) (fun _ q _=>N-(intOf q).toNat);case atStart=>exact ⟨Grow.refl _,0,Nat.zero_le _,rfl,rfl⟩
        case round=>
         clear a0 a1 a2 b0 b1 b2;obtain ⟨hGi,k,hk,rfl,rfl⟩:=hrel;have hKw:Keep (fun q=>blk am≠some q) w6 wp:=hK.trans hKi;have bAk:=bAi.grow hGi;have bBk:=bBi.grow hGi;obtain ⟨⟨a0,a1,a2⟩, -⟩:=bAk.three;by_cases hkn:k<N
         ·have hNC:=ZfQ hkn hjn;have hRN:=ZfQ hin hkn;obtain ⟨x,hxx⟩: ∃ x,A.cells[i*N+k]? =some x:=⟨_,List.getElem?_eq_getElem (by rw[Hx.out];exact hRN)⟩;obtain ⟨y,hyy⟩: ∃ y,B.cells[k*C+j]? =some y:=⟨_,List.getElem?_eq_getElem (by rw[Hy.out];exact hNC)⟩;have hrAw:=hrA.keep hKw fun _ _ h=>h;have hrBw:=hrB.keep hKw fun _ _ h=>h;have hna:na<=576:=(by have:=Nat.mul_le_mul hR hN;have:=Hl.out;have:=Hx.out;omega);have hnb:nb<=576:=(by have:=Nat.mul_le_mul hN hC;have:=Hl'.out;have:=Hy.out;omega);have hxn:=n1.getD (i*N+k);have hyn:=n2.getD (k*C+j);rw[getD_at hxx] at hxn;rw[getD_at hyy] at hyn;have hxy:=ZfP hxn hyn;have hd:=Zec n1 n2 N C i j k;have hdk:=hid (show ZbX A.cells B.cells N C i j (k+1)=ZbX A.cells B.cells N C i j k+x*y by conv=>{lhs;unfold ZbX};rw[getD_at hxx,getD_at hyy]);have HX:=hid hxx;have HY:=hid hyy;clear hNC hRN hxx hyy hxn hyn;obtain ⟨p,hp⟩: ∃ p,p=x*y:=⟨_,rfl⟩;rw[←hp] at hxy hdk;have u5:IntKind.i64.wrap (x*y)=p:=(by rw[←hp];exact IntWalk.i64_in _ (by omega));clear hp;generalize ZbX A.cells B.cells N C i j k=dv at *;have u6:IntKind.i64.wrap (dv+p)=dv+p:=IntWalk.i64_in _ (by omega);go_wp2;refine Zdl (S:=Grow wr) [0,1,2,3,5,6,7] [4,8,9,10,11] Zm (by kernel_rfl) (fun _ _ _ _ _ h=>h) (Grow.refl _).drew ?_;show wpQuiet _ _ _ (fun a'=>ZaS _ _ _ _ [_,_,_,_,_] a' _) [_,_,_,_,_,_,_] _;(repeat (first |go_big_quiet_skip|(go_big_quiet_want;first |(apply Zc Zb;rfl;rfl;exact (fun w' hG=>bAk.grow hG);go_big_quiet_on;simp only[putP])|(apply Zc Zb;rfl;rfl;exact (fun w' hG=>bBk.grow hG);go_big_quiet_on;simp only[putP])|(go_big_quiet_op;first |go_big_quiet_on|(refine ⟨_,(fun _ _=>rfl), ?_⟩;go_big_quiet_on)))));refine wpQuiet_nil ?_;show ZaS _ _ _ _ _ _ _;refine Z5 rfl (fun K hK=> ?_);go_wp2_with fail;refine (Za8 aa na ca N i k (i*N+k) (R:Int) x A.cells _ ((hrAw.grow hGi).grow (Grow.refl _).drew) rfl HX.out (by omega) (by omega) (by omega) (by omega)).mono ?_;rintro e w8 ⟨rfl,hG8⟩;have hG08:Grow wr w8:=(Grow.refl wr).drew.trans hG8;go_wp2_with fail;refine hK _ _ (hG08) ?_;clear hK K;refine Z5 rfl (fun K hK=> ?_);go_wp2_with fail;refine (Za8 ab nb cb C k j (k*C+j) (N:Int) y B.cells _ ((hrBw.grow hGi).grow hG08) rfl HY.out (by omega) (by omega) (by omega) (by omega)).mono ?_;rintro e w9 ⟨rfl,hG9⟩;have hG09:=hG08.trans hG9;go_wp2_with fail;refine hK _ _ (hG09) ?_;clear hK K;refine Z5 rfl (fun K hK=> ?_);go_wp2_with fail;refine hK _ _ (hG09) ?_;clear hK K;refine Z5 rfl (fun K hK=> ?_);go_wp2_with fail;refine hK _ _ (hG09) ?_;clear hK K;refine Z5 rfl (fun K hK=> ?_);go_wp2_with fail;refine hK _ _ (hG09) ?_;clear hK K;refine Zet ?_;go_wp2;go_roundw;case rel=>exact ⟨hGi.trans hG09,k+1,by omega,by go_num,by rw[hdk.out]⟩
          case measure=>simp[intOf];omega
         ·have hkN:k=N:=(by omega);subst hkN;have hd:=Zec n1 n2 k C i j k;have hdI:I64 (ZbX A.cells B.cells k C i j k):=(by unfold I64;omega);have bMr:=(bM.keep hKi nM).grow hGi;obtain ⟨⟨m0,m1,m2⟩, -⟩:=bMr.three;obtain ⟨⟨b0,b1,b2⟩, -⟩:=bBk.three;unfold I64 at hdI;go_wp2_with fail;refine (ZjO am _ _ _ i j (i*C+j) _ _ _ _ (hO.grow hGi) rfl (ZfQ hin hjn) (by omega) (by omega) (by omega) (by omega)).mono ?_;rintro e w8 ⟨rfl,hO8,hK8⟩;go_wp2;go_roundw;case rel=>exact ⟨(hKi.trans hGi.any).trans hK8,j+1,by omega,by go_num,hO8⟩
          case measure=>simp[intOf];omega
       ·have hjC:j=C:=(by omega);subst hjC;go_wp2;go_roundw;case rel=>exact ⟨hK.trans hKi,bM.keep hKi nM,i+1,by omega,by go_num,hO⟩
        case measure=>simp[intOf];omega
     ·have hi':i=R:=(by omega);subst hi';have hz5:=bZ.lt;have bZr:=bZ.keep hK nZ;obtain ⟨⟨m0,m1,m2⟩, -⟩:=bM.three;have hGr:Grow w wr:=(hG.trans hG6).keep hK fun q hq e=>(by have:=hB6 q e;have:=hG.size;omega);have hsr:=hGr.size;have hOM:OM wr (fun g=>w.heap.size+2<g/\g<wr.heap.size) (.agg #[Yv Yi (i:Int),Yv Yi (C:Int), .slice am (i*C) (i*C)]) (ZbD A B):=
       ⟨am,i*C,i*C,by simp only[ZbD,r1,r4],by rw[hcells.out];exact hO,hx,(fun g hg=>⟨by have:=hB6 g hg;omega,hO.lt hg⟩),hAr,hBc⟩
      go_wp2_with fail;refine (Zjy hOM (by omega)).mono ?_;rintro e w7 ⟨m7,rfl,hO7,hG7⟩;obtain ⟨a7,n7,c7,rfl,o7,x7,f7,i7,j7⟩:=hO7;have hs7:=hG7.size;replace bZr:=bZr.grow hG7;clear a0 a1 a2 m0 m1 m2;obtain ⟨⟨z0,z1,z2⟩,g0,g1,g2⟩:=bZr.three;go_wp2;have hle:w.heap.size<=w.heap.size+2:=(by omega);have hGa:Grow w w7:=hGr.trans hG7;refine Zf Zb rfl rfl rfl (((bZr.set 0 _).set 1 _).set 2 _) ⟨_,rfl,⟨a7,n7,c7,rfl, ?_,x7, ?_,i7,j7⟩,((hGa.setCell hle _).setCell hle _).setCell hle _⟩
      ·exact o7.keep ((((Keep.refl (fun q=>q≠w.heap.size+2) w7).setCell (fun _ e=>e rfl) _).setCell (fun _ e=>e rfl) _).setCell (fun _ e=>e rfl) _) (fun g hg _ e=>by have:=(f7 g hg).1;omega)
      ·intro g hg;have h1:=o7.lt hg;have h2:=(f7 g hg).1;exact ⟨by omega,by simpa using h1⟩
   ·have hF:Zai A B=false:=(by unfold Zai;rw[HMA.out,HMB.out];simp[hcr]);have he:Zag A B=false:=(by unfold Zag;rw[hF];rfl);have he2:Zaw A B={rows:=0,cols:=0,cells:=[]}:=(by unfold Zaw;rw[hF];rfl);rw[he,he2];have q1:(A.cols==B.rows)=false:=(by simp[hcr]);have q2:(A.cols !=B.rows)=true:=(by simp[hcr]);clear hF he he2 hcr;go_enter Tryz.func82,Tryz.ntmps82;go_wp2_with fail;rw[←Hw3.out];refine (ZV (vA.grow hG3) hb).mono ?_;rintro e w4 ⟨rfl,hG4⟩;rw[HMA.out];clear a0 a1 a2;obtain ⟨⟨b0,b1,b2⟩, -⟩:=(bB.grow hG4).three;go_wp2_with fail;refine (ZV ((vB.grow hG3).grow hG4) hb').mono ?_;rintro e w5 ⟨rfl,hG5⟩;rw[HMB.out];clear b0 b1 b2;have hG:=(hG3.trans hG4).trans hG5;replace bA:=(bA.grow hG4).grow hG5;replace bB:=(bB.grow hG4).grow hG5;replace bZ:=(bZ.grow hG4).grow hG5;obtain ⟨⟨a0,a1,a2⟩, -⟩:=bA.three;obtain ⟨⟨b0,b1,b2⟩, -⟩:=bB.three;obtain ⟨⟨z0,z1,z2⟩,g0,g1,g2⟩:=bZ.three;go_wp2;have hle:w.heap.size<=w.heap.size+2:=(by omega);refine Zf Zb rfl rfl rfl (((bZ.set 0 _).set 1 _).set 2 _) ⟨_,rfl,OM.zero, ?_⟩;exact ((hG.setCell hle _).setCell hle _).setCell hle _
def ZeS (l:List Int):Bool:=l.all fun x=>x==0
theorem ZjR (h:l[k]? =some x) (hx:(x==0)=false):ZeS l=false:=by
 unfold ZeS;rw[List.all_eq_false];exact ⟨x,List.mem_of_getElem? h,by simp[hx]⟩
theorem Zjf (h: ∀ x∈l,(x==0)=true):ZeS l=true:=by
 unfold ZeS;rw[List.all_eq_true];exact h
theorem Zli (a:Option Addr) (n cap:Nat) (xs:List Int) (w:World) (h:RdI w S a n cap xs) (hn:n<=2097152):
  Calls Tryz.prog 137 #[.slice a n cap] w fun e w'=>e= .returned (.bool (ZeS xs))/\w=w':=by
 have hcl: ∀ (x:Int) (w:World),Calls Tryz.prog 161 #[Yv Yi x] w fun e w'=>e= .returned (.bool (!(x==0)))/\w=w':=fun x w=>by
  by_cases hx:x=0
  ·subst hx;go_enter Tryz.func161,Tryz.ntmps161;go_wp2;go_ret;exact ⟨Zo rfl,rfl⟩
  ·have e1:(x==0)=false:=(by simp[hx]);have e2:(x !=0)=true:=(by simp[hx]);clear hx;go_enter Tryz.func161,Tryz.ntmps161;go_wp2;go_ret;exact ⟨Zo (by rw[e1];rfl),rfl⟩
 have Hl:=hid h.len;have hidx:Calls Tryz.prog 185 #[.slice a n cap, .func (.func 161) #[] #[]] w fun e w'=>(∃ r:Int,e= .returned (Yv Yi r)/\decide (0<=r)= !ZeS xs)/\w=w':=by
  go_enter Tryz.func185,Tryz.ntmps185;go_wp2;go_loop [8] (fun i=> ∃ k:Nat,k<=n/\i=Yv Yi k/\ ∀ x∈xs.take k,(x==0)=true) (fun i=>n-(intOf i).toNat);case atStart=>exact ⟨0,Nat.zero_le _,rfl,by simp⟩
  case round=>
   obtain ⟨k,hk,rfl,he⟩:=hrel;have He:=hid he;clear he;by_cases hlt:k<n
   ·obtain ⟨b,off,x,rfl,hx,hr,_,hb,hc⟩:=h.at hlt;have Hx:=hid hx;clear hx;cases h0:x==0 with
    |true=>
     have H0:=hid h0;clear h0;go_wp2_with fail;refine (hcl _ _).mono ?_;rintro e w' ⟨rfl,rfl⟩;rw[H0.out];go_wp2
     go_round
     case rel=>
      refine ⟨k+1,by omega,by go_num,fun z hz=> ?_⟩;rw[Z8 Hx.out,List.mem_append,List.mem_singleton] at hz;rcases hz with hz|rfl
      ·exact He.out z hz
      ·exact H0.out
     case measure=>simp[intOf];omega
    |false=>have H0:=hid h0;clear h0;go_wp2_with fail;refine (hcl _ _).mono ?_;rintro e w' ⟨rfl,rfl⟩;rw[H0.out];go_wp2;go_ret;exact ⟨⟨k,rfl,by rw[ZjR Hx.out H0.out];simp⟩,rfl⟩
   ·go_wp2;go_ret;have:k=n:=(by omega);subst this;have:=He.out;rw[ZaN Hl.out] at this;exact ⟨⟨-1,rfl,by rw[Zjf this];rfl⟩,rfl⟩
 have hcon:Calls Tryz.prog 160 #[.slice a n cap, .func (.func 161) #[] #[]] w fun e w'=>e= .returned (.bool (!ZeS xs))/\w=w':=by go_enter Tryz.func160,Tryz.ntmps160;go_wp2_with fail;refine hidx.mono ?_;rintro e w' ⟨⟨r,rfl,hr⟩,rfl⟩;have Hr:=hid hr;clear hr;go_wp2;go_ret;exact ⟨Zo Hr.out,rfl⟩
 clear hidx;go_enter Tryz.func137,Tryz.ntmps137;go_wp2_with fail;refine hcon.mono ?_;rintro e w' ⟨rfl,rfl⟩;cases hz:ZeS xs with
 |true=>have Hz:=hid hz;clear hz;go_wp2;go_ret;exact ⟨Zo (by rw[Hz.out]),rfl⟩
 |false=>have Hz:=hid hz;clear hz;go_wp2;go_ret;exact ⟨Zo (by rw[Hz.out]),rfl⟩
theorem Own.ne_blk {e t:TypeId} {n g:Nat} {ds:Array Value} (ho:Own w e sz a n cap cs) (hb:Blk w g ds t) (hne:e≠t):blk a≠some g:=fun h=>by
 cases a with
 |none=>simp at h
 |some p=>simp at h;obtain ⟨_,cur,h2,_⟩:=ho.block p rfl;rw[h] at h2;have:=h2.symm.trans hb;simp only[Option.some.injEq,Obj.cells.injEq] at this;exact hne this.2.1

end Go.Proofs.YtgeoehnbpkediaaGreat
