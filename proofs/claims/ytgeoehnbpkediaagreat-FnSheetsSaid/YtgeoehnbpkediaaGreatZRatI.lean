/- Fractions: the program's functions. -/
import Derived.Test.YtgeoehnbpkediaaGreatZDet
import Derived.Test.YtgeoehnbpkediaaGreatZHermF
set_option maxHeartbeats 8000000
set_option maxRecDepth 100000
namespace Go.Proofs.YtgeoehnbpkediaaGreat
open Go.RowKit
open Lib (hid)
open Go.Value renaming int->Yv
open Go.IntKind renaming i64->Yi
variable {a b x y:Int} {g:Nat} {t:TypeId}
theorem ZG:StT Tryz.prog 166 2:=⟨_,Tryz.underlying166,by kernel_rfl⟩
abbrev RV (r:Rt):Value:= .agg #[Yv Yi r.1,Yv Yi r.2]
theorem Blk.two {w:World} {x y:Value} (h:Blk w g #[x,y] t):
  (w.cell? ⟨g,0,none⟩=some x/\w.cell? ⟨g,1,none⟩=some y)/\w.frozen? ⟨g,0,none⟩=false/\w.frozen? ⟨g,1,none⟩=false:=
 ⟨⟨h.cell 0,h.cell 1⟩,h.free 0,h.free 1⟩
theorem ZQ {P:Program} {C:World->Prop} {o:Oper} {a:Act} {K:Act->Prop} {ty:TypeId} {x:Operand} {u v:Value} (hty:StT P ty 2) (ho:o.op= .load ty x) (hx:a.eval x= .pointer (some ⟨g,0,none⟩))
  (hv: ∀ w',C w'->Blk w' g #[u,v] t) (hk:K (a.put o.dst (.agg #[u,v]))):o.quiet P a C K:=ZC (cs:= #[u,v]) hty ho hx hv hk
theorem ZgQ:Int.gcd b (a.tmod b)=Int.gcd a b:=by
 unfold Int.gcd;rw[Int.natAbs_tmod,Nat.gcd_comm b.natAbs, ←Nat.gcd_rec,Nat.gcd_comm]
theorem ZhM (a:Int):Int.gcd a 0=a.natAbs:=by simp[Int.gcd]
theorem ZfE (hb:b≠0):(a.tmod b).natAbs<b.natAbs:=by
 rw[Int.natAbs_tmod];exact Nat.mod_lt _ (by omega)
theorem Zi4 (ha: -1000000000000000000<=a/\a<=1000000000000000000): -1000000000000000000<=a.tmod b/\a.tmod b<=1000000000000000000:=by
 have h1:=Int.natAbs_tmod a b;have h2:=Nat.mod_le a.natAbs b.natAbs;omega
theorem ZiI (a b:Int) (w:World) (ha: -1000000000000000000<=a/\a<=1000000000000000000) (hb: -1000000000000000000<=b/\b<=1000000000000000000):Calls Tryz.prog 189 #[Yv Yi a,Yv Yi b] w fun e w'=>e= .returned (Yv Yi ((Int.gcd a b:Nat):Int))/\Grow w w':=by
 obtain ⟨G,hG⟩: ∃ G,G=Int.gcd a b:=⟨_,rfl⟩;have HR:=hid hG.symm;go_enter Tryz.func189,Tryz.ntmps189;go_wp2;go_loopw [0,1] (fun av bv wr=>Grow w wr/\ ∃ x y:Int,av=Yv Yi x/\bv=Yv Yi y/\(-1000000000000000000<=x/\x<=1000000000000000000)/\(-1000000000000000000<=y/\y<=1000000000000000000)/\Int.gcd x y=G) (fun _ bv _=>(intOf bv).natAbs);case atStart=>exact ⟨Grow.refl _,a,b,rfl,rfl,ha,hb,hG.symm⟩
 case round=>
  clear ha hb hG;obtain ⟨hGr,x,y,rfl,rfl,hx,hy,hg⟩:=hrel;have Hg:=hid hg;clear hg;by_cases h0:y=0
  ·have q1:(y !=0)=false:=(by simp[h0]);have HE:=hid (show (x.natAbs:Int)=((Int.gcd a b:Nat):Int) by rw[HR.out, ←Hg.out,h0,ZhM]);go_wp2_with fail;refine (Zd5 x _ (by omega)).mono ?_;rintro e _ ⟨rfl,rfl⟩;rw[HE.out];go_wp2;go_ret;exact ⟨rfl,hGr⟩
  ·have q1:(y !=0)=true:=(by simp[h0]);have hm:=Zi4 (b:=y) hx;have hlt:=ZfE (a:=x) h0;have Hs:=hid (show Int.gcd y (x.tmod y)=G by rw[ZgQ,Hg.out]);go_wp2;go_region;go_wp2;go_roundw;case rel=>exact ⟨hGr.drew,y,x.tmod y,rfl,rfl,hy,hm,Hs.out⟩
   case measure=>simp only[intOf];omega
theorem ZlL (h: ¬ 1<=y):isR (x,y)=false:=by unfold isR;rw[decide_eq_false (fun e=>h e.1)];rfl
theorem Zl4 (h: ¬ y<=400000000):isR (x,y)=false:=by unfold isR;rw[decide_eq_false (fun e=>h e.2)];rfl
theorem ZlI (h:Zq x=false):isR (x,y)=false:=by unfold isR;simp only[h];simp
theorem ZlW (h1:1<=y) (h2:y<=400000000) (h3:Zq x=true):isR (x,y)=decide (Int.gcd x y=1):=by unfold isR;rw[decide_eq_true ⟨h1,h2⟩];simp only[h3];simp
theorem ZbF (r:Rt) (w:World):Calls Tryz.prog 167 #[RV r] w fun e w'=>e= .returned (.bool (isR r))/\Grow w w':=by
 obtain ⟨x,y⟩:=r;have hG:=(Grow.refl w).alloc #[Yv Yi x,Yv Yi y] 166;have bM:=Blk.new w #[Yv Yi x,Yv Yi y] 166;obtain ⟨⟨m0,m1⟩, -⟩:=bM.two;have hlt:=bM.lt;go_enter Tryz.func167,Tryz.ntmps167;by_cases h1:1<=y
 ·by_cases h2:y<=400000000
  ·cases h3:Zq x with
   |false=>have Hr:=hid (ZlI (y:=y) h3);go_wp2_with (go_at_call 130;refine (Zas x _).mono ?_;rintro e w' ⟨rfl,rfl⟩;rw[h3]);go_ret;exact ⟨Zo Hr.out.symm,hG⟩
   |true=>
    have hx:=ZT.1 h3;have Hr:=hid (ZlW h1 h2 h3);cases h4:decide (Int.gcd x y=1) with
    |true=>
     have h5:((Int.gcd x y:Nat):Int)=1:=(by have:=of_decide_eq_true h4;omega);rw[h4] at Hr;clear h4;go_wp2_with (first
      |(go_at_call 130;refine (Zas x _).mono ?_;rintro e w' ⟨rfl,rfl⟩;rw[h3])
      |(go_at_call 189;refine (ZiI x y _ (by omega) (by omega)).mono ?_;rintro e w' ⟨rfl,hGg⟩;rw[h5]))
     go_ret;exact ⟨Zo Hr.out.symm,hG.trans hGg⟩
    |false=>
     have h5: ¬ ((Int.gcd x y:Nat):Int)=1:=(by have:=of_decide_eq_false h4;omega);rw[h4] at Hr;clear h4;obtain ⟨G,hGd⟩: ∃ G:Int,((Int.gcd x y:Nat):Int)=G:=⟨_,rfl⟩;rw[hGd] at h5;have HGd:=hid hGd;clear hGd;have h6:(G==1)=false:=(by rw[beq_eq_false_iff_ne];exact h5);go_wp2_with (first
      |(go_at_call 130;refine (Zas x _).mono ?_;rintro e w' ⟨rfl,rfl⟩;rw[h3])
      |(go_at_call 189;refine (ZiI x y _ (by omega) (by omega)).mono ?_;rintro e w' ⟨rfl,hGg⟩;rw[HGd.out]))
     go_ret;exact ⟨Zo Hr.out.symm,hG.trans hGg⟩
  ·have Hr:=hid (Zl4 (x:=x) h2);go_wp2;go_ret;exact ⟨Zo Hr.out.symm,hG⟩
 ·have Hr:=hid (ZlL (x:=x) h1);go_wp2;go_ret;exact ⟨Zo Hr.out.symm,hG⟩
theorem Zb7 (n G:Int): -(n.natAbs:Int)<=n.tdiv G/\n.tdiv G<=n.natAbs:=by
 have h1:(n.tdiv G).natAbs=n.natAbs/G.natAbs:=Int.natAbs_tdiv n G;have h2:=Nat.div_le_self n.natAbs G.natAbs;omega
theorem ZN (h: -9223372036854775808<=x/\x<=9223372036854775807):wrap64 x=x:=by unfold wrap64;omega
theorem Zg0 (n d:Int) (w:World) (hn: -1000000000000000000<=n/\n<=1000000000000000000) (hd: -1000000000000000000<=d/\d<=1000000000000000000) (h0:d≠0):Calls Tryz.prog 188 #[Yv Yi n,Yv Yi d] w fun e w'=>e= .returned (RV (Zdr n d))/\Grow w w':=by
 have hG1:=(Grow.refl w).alloc #[Yv Yi 0,Yv Yi 0] 166;have bZ:=Blk.new w #[Yv Yi 0,Yv Yi 0] 166;have hg:0<Int.gcd n d:=Nat.pos_of_ne_zero fun e=>h0 (Int.gcd_eq_zero_iff.1 e).2;have hgd:Int.gcd n d<=d.natAbs:=Nat.le_of_dvd (by omega) (Int.gcd_dvd_natAbs_right n d);obtain ⟨G,hGd⟩: ∃ G:Int,((Int.gcd n d:Nat):Int)=G:=⟨_,rfl⟩;have hs:sgD n d=if d<0 then -G else G:=by unfold sgD;rw[hGd]
 have Hs:=hid hs;have hG0:0<G/\G<=1000000000000000000:=by omega
 clear hs hg hgd;have HG:=hid hGd;clear hGd;go_enter Tryz.func188,Tryz.ntmps188;go_wp2_with (go_at_call 189;refine (ZiI n d _ hn hd).mono ?_;rintro e w2 ⟨rfl,hGg⟩;rw[HG.out]);all_goals
  first
   |rw[if_pos ‹_›] at Hs
    have hX:wrap64 (-n.tdiv G)=n.tdiv (sgD n d):=(by rw[Hs.out,Int.tdiv_neg];exact ZN (by have:=Zb7 n G;omega));have hY:wrap64 (-d.tdiv G)=d.tdiv (sgD n d):=(by rw[Hs.out,Int.tdiv_neg];exact ZN (by have:=Zb7 d G;omega));have hq1: ¬ (-G)=0:=by omega
   |rw[if_neg (Int.not_lt.2 ‹_›)] at Hs
    have hX:wrap64 (n.tdiv G)=n.tdiv (sgD n d):=(by rw[Hs.out];exact ZN (by have:=Zb7 n G;omega));have hY:wrap64 (d.tdiv G)=d.tdiv (sgD n d):=(by rw[Hs.out];exact ZN (by have:=Zb7 d G;omega));have hq1: ¬ G=0:=by omega
  have hG2:Grow w w2:=hG1.trans hGg;have bZ2:=bZ.grow hGg;obtain ⟨X,hXd⟩: ∃ X,n.tdiv (sgD n d)=X:=⟨_,rfl⟩;obtain ⟨Y,hYd⟩: ∃ Y,d.tdiv (sgD n d)=Y:=⟨_,rfl⟩;rw[hXd] at hX;rw[hYd] at hY;have Hl:=hid (show Zdr n d=if isR (X,Y)=true then (X,Y) else rt0 by unfold Zdr;rw[hXd,hYd]);clear hXd hYd Hs HG hn hd h0;go_wp2;go_region;first |rw[hX,hY]|skip
  clear hX hY;obtain ⟨w3,hw3⟩: ∃ x,x=(w2.alloc (.cells #[Yv Yi X,Yv Yi Y] 166)).drew:=⟨_,rfl⟩;have hG3:Grow w2 w3:=by rw[hw3];exact ((Grow.refl _).alloc _ _).drew
  have bR:Blk w3 w2.heap.size #[Yv Yi X,Yv Yi Y] 166:=by rw[hw3];exact (Blk.new w2 _ _).grow (Grow.refl _).drew
  have bZ3:=bZ2.grow hG3;rw[←hw3];clear hw3;obtain ⟨⟨m0,m1⟩, -⟩:=bR.two;have hlt:=bR.lt;go_wp2_with fail;refine (ZbF (X,Y) _).mono ?_;rintro e w4 ⟨rfl,hG4⟩;have bR4:=bR.grow hG4;have bZ4:=bZ3.grow hG4;obtain ⟨⟨n0,n1⟩, -⟩:=bR4.two;obtain ⟨⟨z0,z1⟩,f0,f1⟩:=bZ4.two;have hlt4:=bR4.lt;have hltZ:=bZ4.lt;clear m0 m1;cases hr:isR (X,Y) with
  |true=>rw[hr,if_pos rfl] at Hl;have hK:=((hG2.trans (hG3.trans hG4)).setCell (p:=⟨w.heap.size,0,none⟩) (Nat.le_refl _) (Yv Yi X)).setCell (p:=⟨w.heap.size,1,none⟩) (Nat.le_refl _) (Yv Yi Y);clear hr;go_wp2;exact ZB ZG rfl rfl rfl ((bZ4.set 0 _).set 1 _) ⟨by rw[Hl.out];rfl,hK⟩
  |false=>rw[hr,if_neg (by simp)] at Hl;have hK:=((hG2.trans (hG3.trans hG4)).setCell (p:=⟨w.heap.size,0,none⟩) (Nat.le_refl _) (Yv Yi 0)).setCell (p:=⟨w.heap.size,1,none⟩) (Nat.le_refl _) (Yv Yi 0);clear hr;go_wp2;exact ZB ZG rfl rfl rfl ((bZ4.set 0 _).set 1 _) ⟨by rw[Hl.out];rfl,hK⟩
theorem Zny (ha: -400000000<=a/\a<=400000000): -400000000<=a.tmod b/\a.tmod b<=400000000:=by
 have h:(a.tmod b).natAbs<=a.natAbs:=by rw[Int.natAbs_tmod];exact Nat.mod_le _ _
 omega
theorem Zpo (a b:Int) (w:World) (ha: -400000000<=a/\a<=400000000) (hb: -400000000<=b/\b<=400000000):Calls Tryz.prog 183 #[Yv Yi a,Yv Yi b] w fun e w'=>e= .returned (Yv Yi ((Int.gcd a b:Nat):Int))/\Grow w w':=by
 obtain ⟨G,hG⟩: ∃ G,G=Int.gcd a b:=⟨_,rfl⟩;have HR:=hid (show ((Int.gcd a b:Nat):Int)=(G:Int) by rw[hG]);have H1:=hid (ZT.2 ha);have H2:=hid (ZT.2 hb);go_enter Tryz.func183,Tryz.ntmps183;go_wp2_with fail;refine (Zaz _ _).mono ?_;rintro e _ ⟨rfl,rfl⟩;rw[H1.out];go_wp2_with fail;refine (Zaz _ _).mono ?_;rintro e _ ⟨rfl,rfl⟩;rw[H2.out];go_wp2;go_loopw [0,1] (fun av bv wr=>Grow w wr/\ ∃ x y:Int,av=Yv Yi x/\bv=Yv Yi y/\(-400000000<=x/\x<=400000000)/\(-400000000<=y/\y<=400000000)/\Int.gcd x y=G) (fun _ bv _=>(intOf bv).natAbs);case atStart=>exact ⟨Grow.refl _,a,b,rfl,rfl,ha,hb,hG.symm⟩
 case round=>
  clear ha hb hG;obtain ⟨hGr,x,y,rfl,rfl,hx,hy,hg⟩:=hrel;have Hg:=hid hg;clear hg;by_cases h0:y=0
  ·have q1:(y !=0)=false:=(by simp[h0]);have HE:=hid (show (x.natAbs:Int)=((Int.gcd a b:Nat):Int) by rw[HR.out, ←Hg.out,h0,ZhM]);go_wp2_with fail;refine (ZdD x _ (by omega)).mono ?_;rintro e _ ⟨rfl,rfl⟩;rw[HE.out];go_wp2;go_ret;exact ⟨rfl,hGr⟩
  ·have q1:(y !=0)=true:=(by simp[h0]);have hm:=Zny (b:=y) hx;have hlt:=ZfE (a:=x) h0;have Hs:=hid (show Int.gcd y (x.tmod y)=G by rw[ZgQ,Hg.out]);go_wp2;go_region;go_wp2;go_roundw;case rel=>exact ⟨hGr.drew,y,x.tmod y,rfl,rfl,hy,hm,Hs.out⟩
   case measure=>simp only[intOf];omega
theorem Za9 (r:Rt) (w:World):Calls Tryz.prog 156 #[RV r] w fun e w'=>e= .returned (.bool (isR r))/\Grow w w':=by
 obtain ⟨x,y⟩:=r;have hG:=(Grow.refl w).alloc #[Yv Yi x,Yv Yi y] 166;have bM:=Blk.new w #[Yv Yi x,Yv Yi y] 166;obtain ⟨⟨m0,m1⟩, -⟩:=bM.two;have hlt:=bM.lt;go_enter Tryz.func156,Tryz.ntmps156;cases h1:inB y 1 400000000 with
 |false=>
  have Hr:=hid (show isR (x,y)=false by
   by_cases h:1<=y
   ·by_cases h':y<=400000000
    ·exfalso;unfold inB at h1;simp[h,h'] at h1
    ·exact Zl4 h'
   ·exact ZlL h)
  go_wp2_with (go_at_call 66;refine (Zbg y 1 400000000 _).mono ?_;rintro e w' ⟨rfl,rfl⟩;rw[h1]);go_ret;exact ⟨Zo Hr.out.symm,hG⟩
 |true=>
  have hy0:1<=y/\y<=400000000:=by unfold inB at h1;simpa using h1
  cases h3:Zq x with
  |false=>
   have Hr:=hid (ZlI (y:=y) h3);clear hy0;go_wp2_with (first
    |(go_at_call 66;refine (Zbg y 1 400000000 _).mono ?_;rintro e w' ⟨rfl,rfl⟩;rw[h1])
    |(go_at_call 100;refine (Zaz x _).mono ?_;rintro e w' ⟨rfl,rfl⟩;rw[h3]))
   go_ret;exact ⟨Zo Hr.out.symm,hG⟩
  |true=>
   have hx:=ZT.1 h3;have hy: -400000000<=y/\y<=400000000:=(by omega);have Hr:=hid (ZlW hy0.1 hy0.2 h3);obtain ⟨G,hGd⟩: ∃ G:Int,((Int.gcd x y:Nat):Int)=G:=⟨_,rfl⟩;have hd:decide (Int.gcd x y=1)=(G==1):=(by rw[←hGd];by_cases h:Int.gcd x y=1<;>simp[h]<;>omega);rw[hd] at Hr;have HGd:=hid hGd;clear hGd hd hy0;go_wp2_with (first
    |(go_at_call 66;refine (Zbg y 1 400000000 _).mono ?_;rintro e w' ⟨rfl,rfl⟩;rw[h1])
    |(go_at_call 100;refine (Zaz x _).mono ?_;rintro e w' ⟨rfl,rfl⟩;rw[h3])
    |(go_at_call 183;refine (Zpo x y _ hx hy).mono ?_;rintro e w' ⟨rfl,hGg⟩;rw[HGd.out]))
   go_ret;exact ⟨Zo Hr.out.symm,hG.trans hGg⟩
theorem ZiO (n d:Int) (w:World) (hn: -1000000000000000000<=n/\n<=1000000000000000000) (hd: -1000000000000000000<=d/\d<=1000000000000000000) (h0:d≠0):Calls Tryz.prog 193 #[Yv Yi n,Yv Yi d] w fun e w'=>e= .returned (RV (Zdr n d))/\Grow w w':=by
 have q0:(d==0)=false:=by rw[beq_eq_false_iff_ne];exact h0
 have hG1:=(Grow.refl w).alloc #[Yv Yi 0,Yv Yi 0] 166;have bZ:=Blk.new w #[Yv Yi 0,Yv Yi 0] 166;have hg:0<Int.gcd n d:=Nat.pos_of_ne_zero fun e=>h0 (Int.gcd_eq_zero_iff.1 e).2;have hgd:Int.gcd n d<=d.natAbs:=Nat.le_of_dvd (by omega) (Int.gcd_dvd_natAbs_right n d);obtain ⟨G,hGd⟩: ∃ G:Int,((Int.gcd n d:Nat):Int)=G:=⟨_,rfl⟩;have hs:sgD n d=if d<0 then -G else G:=by unfold sgD;rw[hGd]
 have Hs:=hid hs;have hG0:0<G/\G<=1000000000000000000:=by omega
 clear hs hg hgd;have HG:=hid hGd;clear hGd;go_enter Tryz.func193,Tryz.ntmps193;go_wp2_with fail;all_goals
  first
   |rw[if_pos ‹_›] at Hs
    have HGn:=hid (show ((Int.gcd (-n) (-d):Nat):Int)=G by rw[Int.gcd_neg,Int.neg_gcd];exact HG.out);have HX:=hid (show wrap64 (-n.tdiv G)=n.tdiv (sgD n d)/\wrap64 (-d.tdiv G)=d.tdiv (sgD n d) by rw[Hs.out,Int.tdiv_neg,Int.tdiv_neg];exact ⟨ZN (by have:=Zb7 n G;omega),ZN (by have:=Zb7 d G;omega)⟩)
   |rw[if_neg (Int.not_lt.2 ‹_›)] at Hs
    have HGn:=HG;have HX:=hid (show n.tdiv G=n.tdiv (sgD n d)/\d/G=d.tdiv (sgD n d) by rw[Hs.out,Int.tdiv_eq_ediv_of_nonneg (a:=d) (by omega)];exact ⟨rfl,rfl⟩)
  go_loopw [5,6] (fun av bv wr=>Grow (w.alloc (.cells #[Yv Yi 0,Yv Yi 0] 166)) wr/\ ∃ x y:Int,av=Yv Yi x/\bv=Yv Yi y/\(-1000000000000000000<=x/\x<=1000000000000000000)/\(-1000000000000000000<=y/\y<=1000000000000000000)/\((Int.gcd x y:Nat):Int)=G) (fun _ bv _=>(intOf bv).natAbs);case atStart=>exact ⟨Grow.refl _,_,_,rfl,rfl,by omega,by omega,HGn.out⟩
  case round=>
   obtain ⟨hGr,x,y,rfl,rfl,hx,hy,hg⟩:=hrel;have Hg:=hid hg;clear hg;by_cases hy0:y=0
   ·have q1:(y !=0)=false:=(by simp[hy0]);have HE:=hid (show (x.natAbs:Int)=G by rw[←Hg.out,hy0,ZhM]);have bZ2:=bZ.grow hGr;obtain ⟨⟨z0,z1⟩,f0,f1⟩:=bZ2.two;have hltZ:=bZ2.lt;clear h0 hy0;go_wp2_with fail;refine (ZdD x _ (by omega)).mono ?_;rintro e _ ⟨rfl,rfl⟩;rw[HE.out];clear hx hy z0 z1 f0 f1 hltZ;have hX:=HX.out.1;have hY:=HX.out.2;have hq1: ¬ G=0:=(by omega);have hG2:Grow w wr:=hG1.trans hGr;obtain ⟨X,hXd⟩: ∃ X,n.tdiv (sgD n d)=X:=⟨_,rfl⟩;obtain ⟨Y,hYd⟩: ∃ Y,d.tdiv (sgD n d)=Y:=⟨_,rfl⟩;have hwX:wrap64 X=X:=ZN (by rw[←hXd];have:=Zb7 n (sgD n d);omega);rw[hXd] at hX;rw[hYd] at hY;have Hl:=hid (show Zdr n d=if isR (X,Y)=true then (X,Y) else rt0 by unfold Zdr;rw[hXd,hYd]);clear hXd hYd Hs HG;go_wp2_with fail;go_region;(first |rw[hX,hY]|skip);(first |rw[hwX]|skip);clear hX hY hwX;obtain ⟨w3,hw3⟩: ∃ x,x=(wr.alloc (.cells #[Yv Yi X,Yv Yi Y] 166)).drew:=⟨_,rfl⟩;have hG3:Grow wr w3:=(by rw[hw3];exact ((Grow.refl _).alloc _ _).drew);have bR:Blk w3 wr.heap.size #[Yv Yi X,Yv Yi Y] 166:=(by rw[hw3];exact (Blk.new wr _ _).grow (Grow.refl _).drew);have bZ3:=bZ2.grow hG3;rw[←hw3];clear hw3;obtain ⟨⟨m0,m1⟩, -⟩:=bR.two;have hlt:=bR.lt;go_wp2_with fail;refine (Za9 (X,Y) _).mono ?_;rintro e w4 ⟨rfl,hG4⟩;have bR4:=bR.grow hG4;have bZ4:=bZ3.grow hG4;obtain ⟨⟨n0,n1⟩, -⟩:=bR4.two;obtain ⟨⟨z0,z1⟩,f0,f1⟩:=bZ4.two;have hlt4:=bR4.lt;have hltZ:=bZ4.lt;clear m0 m1;cases hr:isR (X,Y) with
    |true=>rw[hr,if_pos rfl] at Hl;have hK:=((hG2.trans (hG3.trans hG4)).setCell (p:=⟨w.heap.size,0,none⟩) (Nat.le_refl _) (Yv Yi X)).setCell (p:=⟨w.heap.size,1,none⟩) (Nat.le_refl _) (Yv Yi Y);clear hr;go_wp2;exact ZB ZG rfl rfl rfl ((bZ4.set 0 _).set 1 _) ⟨by rw[Hl.out];rfl,hK⟩
    |false=>rw[hr,if_neg (by simp)] at Hl;have hK:=((hG2.trans (hG3.trans hG4)).setCell (p:=⟨w.heap.size,0,none⟩) (Nat.le_refl _) (Yv Yi 0)).setCell (p:=⟨w.heap.size,1,none⟩) (Nat.le_refl _) (Yv Yi 0);clear hr;go_wp2;exact ZB ZG rfl rfl rfl ((bZ4.set 0 _).set 1 _) ⟨by rw[Hl.out];rfl,hK⟩
   ·have q1:(y !=0)=true:=(by simp[hy0]);have hm:=Zi4 (b:=y) hx;have hlt:=ZfE (a:=x) hy0;have Hs:=hid (show ((Int.gcd y (x.tmod y):Nat):Int)=G by rw[ZgQ,Hg.out]);clear hn hd h0;go_wp2;go_region;go_wp2;go_roundw;case rel=>exact ⟨hGr.drew,y,x.tmod y,rfl,rfl,hy,hm,Hs.out⟩
    case measure=>simp only[intOf];omega
def ZeK (f:Nat) (g:Rt->Rt->Rt):Prop:= ∀ (a b:Rt) (w:World),Calls Tryz.prog f #[RV a,RV b] w fun e w'=>e= .returned (RV (g a b))/\Grow w w'
def ZoC (g:Rt->Rt->Rt):Prop:= ∀ (a b:Rt),isR a=false\/isR b=false->g a b=rt0
theorem Zhq:ZoC Za4/\ZoC Zz/\ZoC ZcE:=by
 refine ⟨fun a b h=> ?_,fun a b h=> ?_,fun a b h=> ?_⟩;all_goals
  first |unfold Za4|unfold Zz|unfold ZcE
  rcases h with h|h<;>rw[h]<;>simp
theorem ZfX:(ZeK 186 Za4/\ZeK 179 Za4)/\(ZeK 166 Zz/\ZeK 181 Zz)/\ZeK 168 ZcE/\ZeK 182 ZcE:=by
 refine ⟨⟨?_, ?_⟩,⟨?_, ?_⟩, ?_, ?_⟩
 case' refine_1=>have hno:=Zhq.1
 case' refine_2=>have hno:=Zhq.1
 case' refine_3=>have hno:=Zhq.2.1
 case' refine_4=>have hno:=Zhq.2.1
 case' refine_5=>have hno:=Zhq.2.2
 case' refine_6=>have hno:=Zhq.2.2
 all_goals
  intro a b w;obtain ⟨x,y⟩:=a;obtain ⟨u,v⟩:=b;have hG1:=(((Grow.refl w).alloc #[Yv Yi x,Yv Yi y] 166).alloc #[Yv Yi u,Yv Yi v] 166).alloc #[Yv Yi 0,Yv Yi 0] 166;obtain ⟨w1,hw1, -,bA,bB,bZ, -⟩:=al3 w #[Yv Yi x,Yv Yi y] 166 #[Yv Yi u,Yv Yi v] 166 #[Yv Yi 0,Yv Yi 0] 166;rw[←hw1] at hG1;obtain ⟨⟨a0,a1⟩, -⟩:=bA.two;obtain ⟨⟨b0,b1⟩, -⟩:=bB.two;have hlA:=bA.lt;have hlB:=bB.lt;rw[hw1] at a0 a1 b0 b1 hlA hlB;first |(go_enter Tryz.func186,Tryz.ntmps186)|(go_enter Tryz.func179,Tryz.ntmps179)|(go_enter Tryz.func166,Tryz.ntmps166)|(go_enter Tryz.func181,Tryz.ntmps181)|(go_enter Tryz.func168,Tryz.ntmps168)|(go_enter Tryz.func182,Tryz.ntmps182)
  go_wp2_with fail;rw[←hw1];clear hw1;first |refine (ZbF (x,y) _).mono ?_|refine (Za9 (x,y) _).mono ?_
  rintro e w2 ⟨rfl,hG2⟩;replace bA:=bA.grow hG2;replace bB:=bB.grow hG2;replace bZ:=bZ.grow hG2;replace hG1:=hG1.trans hG2;clear a0 a1 b0 b1 hlA hlB;obtain ⟨⟨a0,a1⟩, -⟩:=bA.two;obtain ⟨⟨b0,b1⟩, -⟩:=bB.two;have hlA:=bA.lt;have hlB:=bB.lt;cases ha:isR (x,y);case false=>have Hr:=hid (hno _ (u,v) (.inl ha));clear ha;obtain ⟨⟨z0,z1⟩,f0,f1⟩:=bZ.two;have hltZ:=bZ.lt;have hK:=(hG1.setCell (p:=⟨w.heap.size+1+1,0,none⟩) (by show _<=w.heap.size+1+1;omega) (Yv Yi 0)).setCell (p:=⟨w.heap.size+1+1,1,none⟩) (by show _<=w.heap.size+1+1;omega) (Yv Yi 0);go_wp2;exact ZB ZG rfl rfl rfl ((bZ.set 0 _).set 1 _) ⟨by rw[Hr.out];rfl,hK⟩
  case' true=>
   have hxa:=ZcN.1 ha;have Ha:=hid ha;clear ha;go_wp2_with fail;(first |refine (ZbF (u,v) _).mono ?_|refine (Za9 (u,v) _).mono ?_);rintro e w3 ⟨rfl,hG3⟩;replace bA:=bA.grow hG3;replace bB:=bB.grow hG3;replace bZ:=bZ.grow hG3;replace hG1:=hG1.trans hG3;clear a0 a1 b0 b1 hlA hlB;obtain ⟨⟨a0,a1⟩, -⟩:=bA.two;obtain ⟨⟨b0,b1⟩, -⟩:=bB.two;have hlA:=bA.lt;have hlB:=bB.lt;cases hb:isR (u,v);case false=>have Hr:=hid (hno (x,y) _ (.inr hb));clear hb;obtain ⟨⟨z0,z1⟩,f0,f1⟩:=bZ.two;have hltZ:=bZ.lt;have hK:=(hG1.setCell (p:=⟨w.heap.size+1+1,0,none⟩) (by show _<=w.heap.size+1+1;omega) (Yv Yi 0)).setCell (p:=⟨w.heap.size+1+1,1,none⟩) (by show _<=w.heap.size+1+1;omega) (Yv Yi 0);go_wp2;exact ZB ZG rfl rfl rfl ((bZ.set 0 _).set 1 _) ⟨by rw[Hr.out];rfl,hK⟩
   case' true=>have hxb:=ZcN.1 hb;have Hb:=hid hb;clear hb;obtain ⟨⟨p1,p2⟩,⟨p3,p4⟩, -⟩:=hxa;obtain ⟨⟨q1,q2⟩,⟨q3,q4⟩, -⟩:=hxb;simp only at p1 p2 p3 p4 q1 q2 q3 q4
 iterate 2
  focus
   by_cases hu:u=0
   ·have Hr:=hid (show ZcE (x,y) (u,v)=rt0 by unfold ZcE;simp only[hu];simp);subst hu;obtain ⟨⟨z0,z1⟩,f0,f1⟩:=bZ.two;have hltZ:=bZ.lt;have hK:=(hG1.setCell (p:=⟨w.heap.size+1+1,0,none⟩) (by show _<=w.heap.size+1+1;omega) (Yv Yi 0)).setCell (p:=⟨w.heap.size+1+1,1,none⟩) (by show _<=w.heap.size+1+1;omega) (Yv Yi 0);go_wp2;exact ZB ZG rfl rfl rfl ((bZ.set 0 _).set 1 _) ⟨by rw[Hr.out];rfl,hK⟩
   ·have hu':(u==0)=false:=(by rw[beq_eq_false_iff_ne];exact hu);have e1:=Zbm (p:=400000000) (q:=400000000) ⟨p3,p4⟩ (b:=v) ⟨by omega,q2⟩;have e3:=Zbm (p:=400000000) (q:=400000000) (a:=y) ⟨by omega,p2⟩ (b:=u) ⟨q3,q4⟩;have e4: ¬ y*u=0:=fun e=>(by rcases Int.mul_eq_zero.1 e with h|h<;>omega);obtain ⟨N,hN⟩: ∃ N,x*v=N:=⟨_,rfl⟩;obtain ⟨D,hD⟩: ∃ D,y*u=D:=⟨_,rfl⟩;have Hr:=hid (show ZcE (x,y) (u,v)=Zdr N D by unfold ZcE;rw[Ha.out,Hb.out, ←hN, ←hD];simp[hu]);rw[hN] at e1;rw[hD] at e3 e4;have w1':wrap64 (x*v)=N:=(by rw[hN];exact ZN (by omega));have w3':wrap64 (y*u)=D:=(by rw[hD];exact ZN (by omega));clear hD hN;go_wp2_with fail;(first |refine (Zg0 N D _ (by omega) (by omega) (by omega)).mono ?_|refine (ZiO N D _ (by omega) (by omega) (by omega)).mono ?_);rintro e w4 ⟨rfl,hG4⟩;clear p1 p2 p3 p4 q1 q2 q3 q4;replace bA:=bA.grow hG4;replace bB:=bB.grow hG4;replace bZ:=bZ.grow hG4;replace hG1:=hG1.trans hG4;clear a0 a1 b0 b1 hlA hlB;obtain ⟨⟨a0,a1⟩, -⟩:=bA.two;obtain ⟨⟨b0,b1⟩, -⟩:=bB.two;have hlA:=bA.lt;have hlB:=bB.lt;obtain ⟨⟨z0,z1⟩,f0,f1⟩:=bZ.two;have hltZ:=bZ.lt;generalize Zdr N D=L at *;obtain ⟨l1,l2⟩:=L;have hK:=(hG1.setCell (p:=⟨w.heap.size+1+1,0,none⟩) (by show _<=w.heap.size+1+1;omega) (Yv Yi l1)).setCell (p:=⟨w.heap.size+1+1,1,none⟩) (by show _<=w.heap.size+1+1;omega) (Yv Yi l2);go_wp2;exact ZB ZG rfl rfl rfl ((bZ.set 0 _).set 1 _) ⟨by rw[Hr.out];rfl,hK⟩
 iterate 2
  focus
   have e1:=Zbm (p:=400000000) (q:=400000000) ⟨p3,p4⟩ (b:=u) ⟨q3,q4⟩;have e3:=Zbm (p:=400000000) (q:=400000000) (a:=y) ⟨by omega,p2⟩ (b:=v) ⟨by omega,q2⟩;have e4:0<y*v:=Int.mul_pos (by omega) (by omega);obtain ⟨N,hN⟩: ∃ N,x*u=N:=⟨_,rfl⟩;obtain ⟨D,hD⟩: ∃ D,y*v=D:=⟨_,rfl⟩;have Hr:=hid (show Zz (x,y) (u,v)=Zdr N D by unfold Zz;rw[Ha.out,Hb.out, ←hN, ←hD];rfl);rw[hN] at e1;rw[hD] at e3 e4;have w1':wrap64 (x*u)=N:=(by rw[hN];exact ZN (by omega));have w3':wrap64 (y*v)=D:=(by rw[hD];exact ZN (by omega));clear hD hN;go_wp2_with fail;(first |refine (Zg0 N D _ (by omega) (by omega) (by omega)).mono ?_|refine (ZiO N D _ (by omega) (by omega) (by omega)).mono ?_);rintro e w4 ⟨rfl,hG4⟩;clear p1 p2 p3 p4 q1 q2 q3 q4;replace bA:=bA.grow hG4;replace bB:=bB.grow hG4;replace bZ:=bZ.grow hG4;replace hG1:=hG1.trans hG4;clear a0 a1 b0 b1 hlA hlB;obtain ⟨⟨a0,a1⟩, -⟩:=bA.two;obtain ⟨⟨b0,b1⟩, -⟩:=bB.two;have hlA:=bA.lt;have hlB:=bB.lt;obtain ⟨⟨z0,z1⟩,f0,f1⟩:=bZ.two;have hltZ:=bZ.lt;generalize Zdr N D=L at *;obtain ⟨l1,l2⟩:=L;have hK:=(hG1.setCell (p:=⟨w.heap.size+1+1,0,none⟩) (by show _<=w.heap.size+1+1;omega) (Yv Yi l1)).setCell (p:=⟨w.heap.size+1+1,1,none⟩) (by show _<=w.heap.size+1+1;omega) (Yv Yi l2);go_wp2;exact ZB ZG rfl rfl rfl ((bZ.set 0 _).set 1 _) ⟨by rw[Hr.out];rfl,hK⟩
 iterate 2
  focus
   have e1:=Zbm (p:=400000000) (q:=400000000) ⟨p3,p4⟩ (b:=v) ⟨by omega,q2⟩;have e2:=Zbm (p:=400000000) (q:=400000000) ⟨q3,q4⟩ (b:=y) ⟨by omega,p2⟩;have e3:=Zbm (p:=400000000) (q:=400000000) (a:=y) ⟨by omega,p2⟩ (b:=v) ⟨by omega,q2⟩;have e4:0<y*v:=Int.mul_pos (by omega) (by omega);obtain ⟨A,hA⟩: ∃ A,x*v=A:=⟨_,rfl⟩;obtain ⟨B,hB⟩: ∃ B,u*y=B:=⟨_,rfl⟩;obtain ⟨D,hD⟩: ∃ D,y*v=D:=⟨_,rfl⟩;obtain ⟨N,hN⟩: ∃ N,A+B=N:=⟨_,rfl⟩;have Hr:=hid (show Za4 (x,y) (u,v)=Zdr N D by unfold Za4;rw[Ha.out,Hb.out, ←hN, ←hA, ←hB, ←hD];rfl);rw[hA] at e1;rw[hB] at e2;rw[hD] at e3 e4;have w1':wrap64 (x*v)=A:=(by rw[hA];exact ZN (by omega));have w2':wrap64 (u*y)=B:=(by rw[hB];exact ZN (by omega));have w3':wrap64 (y*v)=D:=(by rw[hD];exact ZN (by omega));have w4':wrap64 (A+B)=N:=(by rw[hN];exact ZN (by omega));have hNb: -1000000000000000000<=N/\N<=1000000000000000000:=(by omega);clear e1 e2 hA hB hD hN;go_wp2_with fail;(first |refine (Zg0 N D _ (by omega) (by omega) (by omega)).mono ?_|refine (ZiO N D _ (by omega) (by omega) (by omega)).mono ?_);rintro e w4 ⟨rfl,hG4⟩;clear p1 p2 p3 p4 q1 q2 q3 q4;replace bA:=bA.grow hG4;replace bB:=bB.grow hG4;replace bZ:=bZ.grow hG4;replace hG1:=hG1.trans hG4;clear a0 a1 b0 b1 hlA hlB;obtain ⟨⟨a0,a1⟩, -⟩:=bA.two;obtain ⟨⟨b0,b1⟩, -⟩:=bB.two;have hlA:=bA.lt;have hlB:=bB.lt;obtain ⟨⟨z0,z1⟩,f0,f1⟩:=bZ.two;have hltZ:=bZ.lt;generalize Zdr N D=L at *;obtain ⟨l1,l2⟩:=L;have hK:=(hG1.setCell (p:=⟨w.heap.size+1+1,0,none⟩) (by show _<=w.heap.size+1+1;omega) (Yv Yi l1)).setCell (p:=⟨w.heap.size+1+1,1,none⟩) (by show _<=w.heap.size+1+1;omega) (Yv Yi l2);go_wp2;exact ZB ZG rfl rfl rfl ((bZ.set 0 _).set 1 _) ⟨by rw[Hr.out];rfl,hK⟩
theorem ZnQ (a:Rt) (w:World):(Calls Tryz.prog 187 #[RV a] w fun e w'=>e= .returned (RV (ZaJ a))/\Grow w w')/\Calls Tryz.prog 180 #[RV a] w fun e w'=>e= .returned (RV (ZaJ a))/\Grow w w':=by
 constructor;all_goals
  obtain ⟨x,y⟩:=a;have hG1:=((Grow.refl w).alloc #[Yv Yi x,Yv Yi y] 166).alloc #[Yv Yi 0,Yv Yi 0] 166;obtain ⟨w1,hw1, -,bA,bZ, -⟩:=al2 w #[Yv Yi x,Yv Yi y] 166 #[Yv Yi 0,Yv Yi 0] 166;rw[←hw1] at hG1;obtain ⟨⟨a0,a1⟩, -⟩:=bA.two;have hlA:=bA.lt;rw[hw1] at a0 a1 hlA;first |(go_enter Tryz.func187,Tryz.ntmps187)|(go_enter Tryz.func180,Tryz.ntmps180)
  go_wp2_with fail;rw[←hw1];clear hw1 a0 a1 hlA;first |refine (ZbF (x,y) _).mono ?_|refine (Za9 (x,y) _).mono ?_
  rintro e w2 ⟨rfl,hG2⟩;replace bA:=bA.grow hG2;replace bZ:=bZ.grow hG2;replace hG1:=hG1.trans hG2;obtain ⟨⟨a0,a1⟩, -⟩:=bA.two;obtain ⟨⟨z0,z1⟩,f0,f1⟩:=bZ.two;have hlA:=bA.lt;have hltZ:=bZ.lt;cases ha:isR (x,y) with
  |false=>have Hr:=hid (show ZaJ (x,y)=rt0 by unfold ZaJ;rw[ha];rfl);clear ha;have hK:=(hG1.setCell (p:=⟨w.heap.size+1,0,none⟩) (by show _<=w.heap.size+1;omega) (Yv Yi 0)).setCell (p:=⟨w.heap.size+1,1,none⟩) (by show _<=w.heap.size+1;omega) (Yv Yi 0);go_wp2;exact ZB ZG rfl rfl rfl ((bZ.set 0 _).set 1 _) ⟨by rw[Hr.out];rfl,hK⟩
  |true=>have hxa:=ZcN.1 ha;have Hr:=hid (show ZaJ (x,y)=(-x,y) by unfold ZaJ;rw[ha];rfl);clear ha;obtain ⟨⟨p1,p2⟩,⟨p3,p4⟩, -⟩:=hxa;simp only at p1 p2 p3 p4;have w1':wrap64 (-x)= -x:=ZN (by omega);have hK:=(hG1.setCell (p:=⟨w.heap.size+1,0,none⟩) (by show _<=w.heap.size+1;omega) (Yv Yi (-x))).setCell (p:=⟨w.heap.size+1,1,none⟩) (by show _<=w.heap.size+1;omega) (Yv Yi y);go_wp2;exact ZB ZG rfl rfl rfl ((bZ.set 0 _).set 1 _) ⟨by rw[Hr.out];rfl,hK⟩
theorem ZoS:ZeK 186 Za4:=ZfX.1.1
theorem Zkp:ZeK 179 Za4:=ZfX.1.2
theorem Zf2:ZeK 166 Zz:=ZfX.2.1.1
theorem Zga:ZeK 181 Zz:=ZfX.2.1.2
theorem Zoa:ZeK 168 ZcE:=ZfX.2.2.1
theorem Zn4:ZeK 182 ZcE:=ZfX.2.2.2
theorem Zo8 (a:Rt) (w:World):Calls Tryz.prog 187 #[RV a] w fun e w'=>e= .returned (RV (ZaJ a))/\Grow w w':=(ZnQ a w).1
theorem Zk4 (a:Rt) (w:World):Calls Tryz.prog 180 #[RV a] w fun e w'=>e= .returned (RV (ZaJ a))/\Grow w w':=(ZnQ a w).2
theorem ZjW (n:Int) (w:World):Calls Tryz.prog 164 #[Yv Yi n] w fun e w'=>e= .returned (RV (n,1))/\Grow w w':=by
 go_enter Tryz.func164,Tryz.ntmps164;go_wp2;exact ZB ZG rfl rfl rfl (Blk.new _ _ _) ⟨rfl,(Grow.refl w).alloc _ _⟩
theorem Zls (n d:Int) (w:World) (hn: -4000000000<=n/\n<=4000000000) (hd:0<d/\d<=4000000000):Calls Tryz.prog 190 #[Yv Yi n,Yv Yi d] w fun e w'=>e= .returned (Yv Yi (n/d))/\Grow w w':=by
 have h1:=Zb7 n d;have h3:=Int.emod_nonneg n (show d≠0 by omega);have h4:=Int.emod_lt_of_pos n hd.1;have h5:=Int.emod_add_mul_ediv n d;have hdd: ¬ d<0:=by omega
 have hd0: ¬ d=0:=by omega
 by_cases hneg:n<0
 ·by_cases hr:n.tmod d=0
  ·have he:n.tdiv d=n/d:=(by rw[Int.tdiv_eq_ediv_of_dvd (Int.dvd_of_tmod_eq_zero hr)]);have He:=hid he;have w1':wrap64 (n.tdiv d)=n.tdiv d:=ZN (by omega);clear he h3 h4 h5;go_enter Tryz.func190,Tryz.ntmps190;go_wp2;go_ret;exact ⟨ZU He.out,Grow.refl _⟩
  ·have he:n.tdiv d-1=n/d:=by
    have h6:=Int.tdiv_eq_ediv (a:=n) (b:=d);rw[if_neg (by
     rintro (h|h)
     ·omega
     ·exact hr (Int.tmod_eq_zero_of_dvd h))] at h6
    have h7:d.sign=1:=Int.sign_eq_one_of_pos hd.1;omega
   have He:=hid he;have w1':wrap64 (n.tdiv d)=n.tdiv d:=ZN (by omega);have w2':wrap64 (n.tdiv d-1)=n.tdiv d-1:=ZN (by omega);clear he h3 h4 h5;go_enter Tryz.func190,Tryz.ntmps190;go_wp2;go_ret;exact ⟨ZU He.out,Grow.refl _⟩
 ·have he:n.tdiv d=n/d:=Int.tdiv_eq_ediv_of_nonneg (by omega);have He:=hid he;have w1':wrap64 (n.tdiv d)=n.tdiv d:=ZN (by omega);clear he h3 h4 h5;go_enter Tryz.func190,Tryz.ntmps190;go_wp2;all_goals (go_ret;exact ⟨ZU He.out,Grow.refl _⟩)
theorem ZoD (a:Rt) (w:World):Calls Tryz.prog 169 #[RV a] w fun e w'=>e= .returned (Yv Yi (Zav a))/\Grow w w':=by
 obtain ⟨x,y⟩:=a;have hG1:=(Grow.refl w).alloc #[Yv Yi x,Yv Yi y] 166;have bA:=Blk.new w #[Yv Yi x,Yv Yi y] 166;obtain ⟨⟨a0,a1⟩, -⟩:=bA.two;have hlA:=bA.lt;go_enter Tryz.func169,Tryz.ntmps169;go_wp2_with fail;clear a0 a1 hlA;refine (ZbF (x,y) _).mono ?_;rintro e w2 ⟨rfl,hG2⟩;replace bA:=bA.grow hG2;replace hG1:=hG1.trans hG2;obtain ⟨⟨a0,a1⟩, -⟩:=bA.two;have hlA:=bA.lt;cases ha:isR (x,y) with
 |false=>have Hr:=hid (show Zav (x,y)=0 by unfold Zav;rw[ha];rfl);clear ha;go_wp2;go_ret;exact ⟨ZU Hr.out.symm,hG1⟩
 |true=>have hxa:=ZcN.1 ha;have Hr:=hid (show Zav (x,y)=(2*x+y)/(2*y) by unfold Zav;rw[ha];rfl);clear ha;obtain ⟨⟨p1,p2⟩,⟨p3,p4⟩, -⟩:=hxa;simp only at p1 p2 p3 p4;have w1':wrap64 (2*x)=2*x:=ZN (by omega);have w2':wrap64 (2*y)=2*y:=ZN (by omega);have w3':wrap64 (2*x+y)=2*x+y:=ZN (by omega);go_wp2_with fail;refine (Zls (2*x+y) (2*y) _ (by omega) (by omega)).mono ?_;rintro e w3 ⟨rfl,hG3⟩;go_wp2;go_ret;exact ⟨ZU Hr.out.symm,hG1.trans hG3⟩
theorem Zol (a b:Rt) (w:World):Calls Tryz.prog 191 #[RV a,RV b] w fun e w'=>e= .returned (Yv Yi (ZZ a b))/\Grow w w':=by
 obtain ⟨x,y⟩:=a;obtain ⟨u,v⟩:=b;have hG1:=((Grow.refl w).alloc #[Yv Yi x,Yv Yi y] 166).alloc #[Yv Yi u,Yv Yi v] 166;obtain ⟨w1,hw1, -,bA,bB, -⟩:=al2 w #[Yv Yi x,Yv Yi y] 166 #[Yv Yi u,Yv Yi v] 166;rw[←hw1] at hG1;obtain ⟨⟨a0,a1⟩, -⟩:=bA.two;obtain ⟨⟨b0,b1⟩, -⟩:=bB.two;have hlA:=bA.lt;have hlB:=bB.lt;rw[hw1] at a0 a1 b0 b1 hlA hlB;go_enter Tryz.func191,Tryz.ntmps191;go_wp2_with fail;rw[←hw1];clear hw1 a0 a1 b0 b1 hlA hlB;refine (ZbF (x,y) _).mono ?_;rintro e w2 ⟨rfl,hG2⟩;replace bA:=bA.grow hG2;replace bB:=bB.grow hG2;replace hG1:=hG1.trans hG2;obtain ⟨⟨a0,a1⟩, -⟩:=bA.two;obtain ⟨⟨b0,b1⟩, -⟩:=bB.two;have hlA:=bA.lt;have hlB:=bB.lt;cases ha:isR (x,y) with
 |false=>have Hr:=hid (show ZZ (x,y) (u,v)=2 by unfold ZZ;rw[ha];rfl);clear ha;go_wp2;go_ret;exact ⟨ZU Hr.out.symm,hG1⟩
 |true=>
  have hxa:=ZcN.1 ha;have Ha:=hid ha;clear ha;go_wp2_with fail;refine (ZbF (u,v) _).mono ?_;rintro e w3 ⟨rfl,hG3⟩;replace bA:=bA.grow hG3;replace bB:=bB.grow hG3;replace hG1:=hG1.trans hG3;clear a0 a1 b0 b1 hlA hlB;obtain ⟨⟨a0,a1⟩, -⟩:=bA.two;obtain ⟨⟨b0,b1⟩, -⟩:=bB.two;have hlA:=bA.lt;have hlB:=bB.lt;cases hb:isR (u,v) with
  |false=>have Hr:=hid (show ZZ (x,y) (u,v)=2 by unfold ZZ;rw[Ha.out,hb];rfl);clear hb;go_wp2;go_ret;exact ⟨ZU Hr.out.symm,hG1⟩
  |true=>
   have hxb:=ZcN.1 hb;obtain ⟨⟨p1,p2⟩,⟨p3,p4⟩, -⟩:=hxa;obtain ⟨⟨q1,q2⟩,⟨q3,q4⟩, -⟩:=hxb;simp only at p1 p2 p3 p4 q1 q2 q3 q4;have e1:=Zbm (p:=400000000) (q:=400000000) ⟨p3,p4⟩ (b:=v) ⟨by omega,q2⟩;have e2:=Zbm (p:=400000000) (q:=400000000) ⟨q3,q4⟩ (b:=y) ⟨by omega,p2⟩;obtain ⟨A,hA⟩: ∃ A,x*v=A:=⟨_,rfl⟩;obtain ⟨B,hB⟩: ∃ B,u*y=B:=⟨_,rfl⟩;have Hr:=hid (show ZZ (x,y) (u,v)=if A<B then -1 else if B<A then 1 else 0 by unfold ZZ;rw[Ha.out,hb, ←hA, ←hB];rfl);rw[hA] at e1;rw[hB] at e2;have w1':wrap64 (x*v)=A:=(by rw[hA];exact ZN (by omega));have w2':wrap64 (u*y)=B:=(by rw[hB];exact ZN (by omega));clear hA hB e1 e2 hb;by_cases h1:A<B
   ·rw[if_pos h1] at Hr;go_wp2;go_ret;exact ⟨ZU Hr.out.symm,hG1⟩
   ·rw[if_neg h1] at Hr;by_cases h2:B<A
    ·rw[if_pos h2] at Hr;go_wp2;go_ret;exact ⟨ZU Hr.out.symm,hG1⟩
    ·rw[if_neg h2] at Hr;go_wp2;go_ret;exact ⟨ZU Hr.out.symm,hG1⟩
def Zc9 (a b:Rt):Rt:=Za4 a (ZaJ b)
theorem ZkJ (a b:Rt) (w:World):Calls Tryz.prog 165 #[RV a,RV b] w fun e w'=>e= .returned (RV (Zc9 a b))/\Grow w w':=by
 obtain ⟨x,y⟩:=a;obtain ⟨u,v⟩:=b;have hG1:=(((Grow.refl w).alloc #[Yv Yi x,Yv Yi y] 166).alloc #[Yv Yi u,Yv Yi v] 166).alloc #[Yv Yi 0,Yv Yi 0] 166;obtain ⟨w1,hw1, -,bA,bB,bZ, -⟩:=al3 w #[Yv Yi x,Yv Yi y] 166 #[Yv Yi u,Yv Yi v] 166 #[Yv Yi 0,Yv Yi 0] 166;rw[←hw1] at hG1;obtain ⟨⟨a0,a1⟩, -⟩:=bA.two;obtain ⟨⟨b0,b1⟩, -⟩:=bB.two;have hlA:=bA.lt;have hlB:=bB.lt;rw[hw1] at a0 a1 b0 b1 hlA hlB;have hs1:w1.heap.size=w.heap.size+1+1+1:=by rw[hw1];simp
 go_enter Tryz.func165,Tryz.ntmps165;go_wp2_with fail;rw[←hw1];have nA:w.heap.size≠w.heap.size+1+1:=by omega
 have nB:w.heap.size+1≠w.heap.size+1+1:=by omega
 clear a0 a1 b0 b1 hlA hlB hw1;refine Zd (S:=(Keep (fun q=>q≠w.heap.size+1+1) w1)) [([0,1],some 2),([],some 3),([],some 4)] Zm (by kernel_rfl) (fun _ _ _ _ _ h=>h) (Keep.refl _ _).drew ?_;show wpQuiet _ _ _ _ [_,_] _;repeat (first |(go_big_quiet_want;(first |refine ZQ ZG rfl rfl (fun w' hG=>bA.keep hG nA) ?_|refine ZQ ZG rfl rfl (fun w' hG=>bB.keep hG nB) ?_);go_big_quiet_on;simp only[putP])|go_big_quiet_step (exact fun _=>rfl))
 refine wpQuiet_nil ?_;refine Zh rfl (fun K hK=> ?_);go_wp2_with fail;refine (Zo8 (u,v) _).mono ?_;rintro e w2 ⟨rfl,hG2⟩;have hGa:=(Grow.refl w1).drew.trans hG2;go_wp2_with fail;refine hK _ _ (hGa.any) ?_;clear hK K;refine wpQuiet_nil ?_;refine Zh rfl (fun K hK=> ?_);go_wp2_with fail;refine (ZoS (x,y) (ZaJ (u,v)) _).mono ?_;rintro e w3 ⟨rfl,hG3⟩;have hGb:=hGa.trans hG3;go_wp2_with fail;refine hK _ _ (hGb.any) ?_;clear hK K;refine wpQuiet_nil ?_;refine Zh rfl (fun K hK=> ?_);have hG:=hG1.trans hGb;replace bZ:=bZ.grow hGb;have Hr:=hid (show Zc9 (x,y) (u,v)=Za4 (x,y) (ZaJ (u,v)) from rfl);generalize Za4 (x,y) (ZaJ (u,v))=L at *;obtain ⟨l1,l2⟩:=L;obtain ⟨⟨z0,z1⟩,f0,f1⟩:=bZ.two;have hltZ:=bZ.lt;have hKz:=(hG.setCell (p:=⟨w.heap.size+1+1,0,none⟩) (by show _<=w.heap.size+1+1;omega) (Yv Yi l1)).setCell (p:=⟨w.heap.size+1+1,1,none⟩) (by show _<=w.heap.size+1+1;omega) (Yv Yi l2);have hKs:Keep (fun q=>q≠w.heap.size+1+1) w3 ((w3.setCell ⟨w.heap.size+1+1,0,none⟩ (Yv Yi l1)).setCell ⟨w.heap.size+1+1,1,none⟩ (Yv Yi l2)):=((Keep.refl _ w3).setCell (fun _ e=>e rfl) _).setCell (fun _ e=>e rfl) _;go_wp2_with fail;refine hK _ _ ((hGb.any.trans hKs)) ?_;clear hK K;refine Zi ?_;go_wp2;exact ZB ZG rfl rfl rfl ((bZ.set 0 _).set 1 _) ⟨by rw[Hr.out];rfl,hKz⟩

end Go.Proofs.YtgeoehnbpkediaaGreat
