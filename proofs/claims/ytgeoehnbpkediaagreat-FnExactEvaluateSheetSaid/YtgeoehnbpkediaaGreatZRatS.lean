/- Fractions: the reference's functions. -/
import Derived.Test.YtgeoehnbpkediaaGreatZRatI
import Derived.Test.YtgeoehnbpkediaaGreatZRedP
set_option maxHeartbeats 8000000
set_option maxRecDepth 100000
namespace Go.Proofs.YtgeoehnbpkediaaGreat
open Go.RowKit
open Lib (hid)
open Go.Value renaming int->Yv
open Go.IntKind renaming i64->Yi
theorem Zm4 {a b:Int} (ha: -400000000<=a/\a<=400000000): -400000000<=a.tmod b/\a.tmod b<=400000000:=by
 have h:(a.tmod b).natAbs<=a.natAbs:=by rw[Int.natAbs_tmod];exact Nat.mod_le _ _
 omega
theorem Zox (a b:Int) (w:World) (ha: -400000000<=a/\a<=400000000) (hb: -400000000<=b/\b<=400000000):Calls Tryz.prog 183 #[Yv Yi a,Yv Yi b] w fun e w'=>e= .returned (Yv Yi ((Int.gcd a b:Nat):Int))/\Grow w w':=by
 obtain ⟨G,hG⟩: ∃ G,G=Int.gcd a b:=⟨_,rfl⟩
 have HR:=hid (show ((Int.gcd a b:Nat):Int)=(G:Int) by rw[hG])
 have H1:=hid (ZS.2 ha)
 have H2:=hid (ZS.2 hb)
 go_enter Tryz.func183,Tryz.ntmps183
 go_wp2_with fail
 refine (ZaB _ _).mono ?_
 rintro e _ ⟨rfl,rfl⟩
 rw[H1.out]
 go_wp2_with fail
 refine (ZaB _ _).mono ?_
 rintro e _ ⟨rfl,rfl⟩
 rw[H2.out]
 go_wp2
 go_loopw [0,1] (fun av bv wr=>Grow w wr/\ ∃ x y:Int,av=Yv Yi x/\bv=Yv Yi y/\(-400000000<=x/\x<=400000000)/\(-400000000<=y/\y<=400000000)/\Int.gcd x y=G) (fun _ bv _=>(intOf bv).natAbs)
 case atStart=>exact ⟨Grow.refl _,a,b,rfl,rfl,ha,hb,hG.symm⟩
 case round=>
  clear ha hb hG
  obtain ⟨hGr,x,y,rfl,rfl,hx,hy,hg⟩:=hrel
  have Hg:=hid hg;clear hg
  by_cases h0:y=0
  ·have q1:(y !=0)=false:=by simp[h0]
   have HE:=hid (show (x.natAbs:Int)=((Int.gcd a b:Nat):Int) by rw[HR.out, ←Hg.out,h0,ZfB])
   go_wp2_with fail
   refine (ZcK x _ (by omega)).mono ?_
   rintro e _ ⟨rfl,rfl⟩
   rw[HE.out]
   go_wp2
   go_ret
   exact ⟨rfl,hGr⟩
  ·have q1:(y !=0)=true:=by simp[h0]
   have hm:=Zm4 (b:=y) hx
   have hlt:=ZdT (a:=x) h0
   have Hs:=hid (show Int.gcd y (x.tmod y)=G by rw[Ze0,Hg.out])
   go_wp2
   go_region
   go_wp2
   go_roundw
   case rel=>exact ⟨hGr.drew,y,x.tmod y,rfl,rfl,hy,hm,Hs.out⟩
   case measure=>simp only[intOf];omega
theorem Zag (r:Rt) (w:World):Calls Tryz.prog 156 #[RV r] w fun e w'=>e= .returned (.bool (isR r))/\Grow w w':=by
 obtain ⟨x,y⟩:=r
 have hG:=(Grow.refl w).alloc #[Yv Yi x,Yv Yi y] 166
 have bM:=Blk.new w #[Yv Yi x,Yv Yi y] 166
 obtain ⟨⟨m0,m1⟩, -⟩:=bM.two
 have hlt:=bM.lt
 go_enter Tryz.func156,Tryz.ntmps156
 cases h1:inB y 1 400000000 with
 |false=>
  have Hr:=hid (show isR (x,y)=false by
   by_cases h:1<=y
   ·by_cases h':y<=400000000
    ·exfalso;unfold inB at h1;simp[h,h'] at h1
    ·exact Zlc h'
   ·exact Zk8 h)
  go_wp2_with (go_at_call 66;refine (Zz y 1 400000000 _).mono ?_;rintro e w' ⟨rfl,rfl⟩;rw[h1])
  go_ret
  exact ⟨Zb Hr.out.symm,hG⟩
 |true=>
  have hy0:1<=y/\y<=400000000:=by unfold inB at h1;simpa using h1
  cases h3:Zq x with
  |false=>
   have Hr:=hid (Zle (y:=y) h3)
   clear hy0
   go_wp2_with (first
    |(go_at_call 66;refine (Zz y 1 400000000 _).mono ?_;rintro e w' ⟨rfl,rfl⟩;rw[h1])
    |(go_at_call 100;refine (ZaB x _).mono ?_;rintro e w' ⟨rfl,rfl⟩;rw[h3]))
   go_ret
   exact ⟨Zb Hr.out.symm,hG⟩
  |true=>
   have hx:=ZS.1 h3
   have hy: -400000000<=y/\y<=400000000:=by omega
   have Hr:=hid (Zlj hy0.1 hy0.2 h3)
   obtain ⟨G,hGd⟩: ∃ G:Int,((Int.gcd x y:Nat):Int)=G:=⟨_,rfl⟩
   have hd:decide (Int.gcd x y=1)=(G==1):=by rw[←hGd];by_cases h:Int.gcd x y=1<;>simp[h]<;>omega
   rw[hd] at Hr
   have HGd:=hid hGd
   clear hGd hd hy0
   go_wp2_with (first
    |(go_at_call 66;refine (Zz y 1 400000000 _).mono ?_;rintro e w' ⟨rfl,rfl⟩;rw[h1])
    |(go_at_call 100;refine (ZaB x _).mono ?_;rintro e w' ⟨rfl,rfl⟩;rw[h3])
    |(go_at_call 183;refine (Zox x y _ hx hy).mono ?_;rintro e w' ⟨rfl,hGg⟩;rw[HGd.out]))
   go_ret
   exact ⟨Zb Hr.out.symm,hG.trans hGg⟩
theorem Zil (n d:Int) (w:World) (hn: -1000000000000000000<=n/\n<=1000000000000000000) (hd: -1000000000000000000<=d/\d<=1000000000000000000) (h0:d≠0):Calls Tryz.prog 193 #[Yv Yi n,Yv Yi d] w fun e w'=>e= .returned (RV (Zbp n d))/\Grow w w':=by
 have q0:(d==0)=false:=by rw[beq_eq_false_iff_ne];exact h0
 have hG1:=(Grow.refl w).alloc #[Yv Yi 0,Yv Yi 0] 166
 have bZ:=Blk.new w #[Yv Yi 0,Yv Yi 0] 166
 have hg:0<Int.gcd n d:=Nat.pos_of_ne_zero fun e=>h0 (Int.gcd_eq_zero_iff.1 e).2
 have hgd:Int.gcd n d<=d.natAbs:=Nat.le_of_dvd (by omega) (Int.gcd_dvd_natAbs_right n d)
 obtain ⟨G,hGd⟩: ∃ G:Int,((Int.gcd n d:Nat):Int)=G:=⟨_,rfl⟩
 have hs:sgD n d=if d<0 then -G else G:=by unfold sgD;rw[hGd]
 have Hs:=hid hs
 have hG0:0<G/\G<=1000000000000000000:=by omega
 clear hs hg hgd
 have HG:=hid hGd
 clear hGd
 go_enter Tryz.func193,Tryz.ntmps193
 go_wp2_with fail
 ·rw[if_pos ‹_›] at Hs
  have hgn:((Int.gcd (-n) (-d):Nat):Int)=G:=by rw[Int.gcd_neg,Int.neg_gcd];exact HG.out
  have HGn:=hid hgn
  clear hgn
  go_loopw [5,6] (fun av bv wr=>Grow (w.alloc (.cells #[Yv Yi 0,Yv Yi 0] 166)) wr/\ ∃ x y:Int,av=Yv Yi x/\bv=Yv Yi y/\(-1000000000000000000<=x/\x<=1000000000000000000)/\(-1000000000000000000<=y/\y<=1000000000000000000)/\((Int.gcd x y:Nat):Int)=G) (fun _ bv _=>(intOf bv).natAbs)
  case atStart=>exact ⟨Grow.refl _,_,_,rfl,rfl,by omega,by omega,HGn.out⟩
  case round=>
   obtain ⟨hGr,x,y,rfl,rfl,hx,hy,hg⟩:=hrel
   have Hg:=hid hg;clear hg
   by_cases hy0:y=0
   ·have q1:(y !=0)=false:=by simp[hy0]
    have HE:=hid (show (x.natAbs:Int)=G by rw[←Hg.out,hy0,ZfB])
    have bZ2:=bZ.grow hGr
    obtain ⟨⟨z0,z1⟩,f0,f1⟩:=bZ2.two
    have hltZ:=bZ2.lt
    clear h0 hy0
    go_wp2_with fail
    refine (ZcK x _ (by omega)).mono ?_
    rintro e _ ⟨rfl,rfl⟩
    rw[HE.out]
    clear hx hy z0 z1 f0 f1 hltZ
    have hX:wrap64 (-n.tdiv G)=n.tdiv (sgD n d):=by rw[Hs.out,Int.tdiv_neg];exact ZD (by have:=Zbx n G;omega)
    have hY:wrap64 (-d.tdiv G)=d.tdiv (sgD n d):=by rw[Hs.out,Int.tdiv_neg];exact ZD (by have:=Zbx d G;omega)
    have hq1: ¬ G=0:=by omega
    have hG2:Grow w wr:=hG1.trans hGr
    obtain ⟨X,hXd⟩: ∃ X,n.tdiv (sgD n d)=X:=⟨_,rfl⟩
    obtain ⟨Y,hYd⟩: ∃ Y,d.tdiv (sgD n d)=Y:=⟨_,rfl⟩
    have hwX:wrap64 X=X:=ZD (by rw[←hXd];have:=Zbx n (sgD n d);omega)
    rw[hXd] at hX
    rw[hYd] at hY
    have Hl:=hid (show Zbp n d=if isR (X,Y)=true then (X,Y) else rt0 by unfold Zbp;rw[hXd,hYd])
    clear hXd hYd Hs HG
    go_wp2_with fail
    go_region
    first |rw[hX,hY]|skip
    first |rw[hwX]|skip
    clear hX hY hwX
    obtain ⟨w3,hw3⟩: ∃ x,x=(wr.alloc (.cells #[Yv Yi X,Yv Yi Y] 166)).drew:=⟨_,rfl⟩
    have hG3:Grow wr w3:=by rw[hw3];exact ((Grow.refl _).alloc _ _).drew
    have bR:Blk w3 wr.heap.size #[Yv Yi X,Yv Yi Y] 166:=by rw[hw3];exact (Blk.new wr _ _).grow (Grow.refl _).drew
    have bZ3:=bZ2.grow hG3
    rw[←hw3]
    clear hw3
    obtain ⟨⟨m0,m1⟩, -⟩:=bR.two
    have hlt:=bR.lt
    go_wp2_with fail
    refine (Zag (X,Y) _).mono ?_
    rintro e w4 ⟨rfl,hG4⟩
    have bR4:=bR.grow hG4
    have bZ4:=bZ3.grow hG4
    obtain ⟨⟨n0,n1⟩, -⟩:=bR4.two
    obtain ⟨⟨z0,z1⟩,f0,f1⟩:=bZ4.two
    have hlt4:=bR4.lt
    have hltZ:=bZ4.lt
    clear m0 m1
    cases hr:isR (X,Y) with
    |true=>
     rw[hr,if_pos rfl] at Hl
     have hK:=((hG2.trans (hG3.trans hG4)).setCell (p:=⟨w.heap.size,0,none⟩) (Nat.le_refl _) (Yv Yi X)).setCell (p:=⟨w.heap.size,1,none⟩) (Nat.le_refl _) (Yv Yi Y)
     clear hr
     go_wp2
     exact Zp Zr rfl rfl rfl ((bZ4.set 0 _).set 1 _) ⟨by rw[Hl.out];rfl,hK⟩
    |false=>
     rw[hr,if_neg (by simp)] at Hl
     have hK:=((hG2.trans (hG3.trans hG4)).setCell (p:=⟨w.heap.size,0,none⟩) (Nat.le_refl _) (Yv Yi 0)).setCell (p:=⟨w.heap.size,1,none⟩) (Nat.le_refl _) (Yv Yi 0)
     clear hr
     go_wp2
     exact Zp Zr rfl rfl rfl ((bZ4.set 0 _).set 1 _) ⟨by rw[Hl.out];rfl,hK⟩
   ·have q1:(y !=0)=true:=by simp[hy0]
    have hm:=ZgP (b:=y) hx
    have hlt:=ZdT (a:=x) hy0
    have Hs:=hid (show ((Int.gcd y (x.tmod y):Nat):Int)=G by rw[Ze0,Hg.out])
    clear hn hd h0
    go_wp2
    go_region
    go_wp2
    go_roundw
    case rel=>exact ⟨hGr.drew,y,x.tmod y,rfl,rfl,hy,hm,Hs.out⟩
    case measure=>simp only[intOf];omega
 ·rw[if_neg (Int.not_lt.2 ‹_›)] at Hs
  go_loopw [5,6] (fun av bv wr=>Grow (w.alloc (.cells #[Yv Yi 0,Yv Yi 0] 166)) wr/\ ∃ x y:Int,av=Yv Yi x/\bv=Yv Yi y/\(-1000000000000000000<=x/\x<=1000000000000000000)/\(-1000000000000000000<=y/\y<=1000000000000000000)/\((Int.gcd x y:Nat):Int)=G) (fun _ bv _=>(intOf bv).natAbs)
  case atStart=>exact ⟨Grow.refl _,_,_,rfl,rfl,by omega,by omega,HG.out⟩
  case round=>
   obtain ⟨hGr,x,y,rfl,rfl,hx,hy,hg⟩:=hrel
   have Hg:=hid hg;clear hg
   by_cases hy0:y=0
   ·have q1:(y !=0)=false:=by simp[hy0]
    have HE:=hid (show (x.natAbs:Int)=G by rw[←Hg.out,hy0,ZfB])
    have bZ2:=bZ.grow hGr
    obtain ⟨⟨z0,z1⟩,f0,f1⟩:=bZ2.two
    have hltZ:=bZ2.lt
    clear h0 hy0
    go_wp2_with fail
    refine (ZcK x _ (by omega)).mono ?_
    rintro e _ ⟨rfl,rfl⟩
    rw[HE.out]
    clear hx hy z0 z1 f0 f1 hltZ
    have hX:n.tdiv G=n.tdiv (sgD n d):=by rw[Hs.out]
    have hY:d/G=d.tdiv (sgD n d):=by rw[Hs.out,Int.tdiv_eq_ediv_of_nonneg (by omega)]
    have hq1: ¬ G=0:=by omega
    have hG2:Grow w wr:=hG1.trans hGr
    obtain ⟨X,hXd⟩: ∃ X,n.tdiv (sgD n d)=X:=⟨_,rfl⟩
    obtain ⟨Y,hYd⟩: ∃ Y,d.tdiv (sgD n d)=Y:=⟨_,rfl⟩
    have hwX:wrap64 X=X:=ZD (by rw[←hXd];have:=Zbx n (sgD n d);omega)
    rw[hXd] at hX
    rw[hYd] at hY
    have Hl:=hid (show Zbp n d=if isR (X,Y)=true then (X,Y) else rt0 by unfold Zbp;rw[hXd,hYd])
    clear hXd hYd Hs HG
    go_wp2_with fail
    go_region
    first |rw[hX,hY]|skip
    first |rw[hwX]|skip
    clear hX hY hwX
    obtain ⟨w3,hw3⟩: ∃ x,x=(wr.alloc (.cells #[Yv Yi X,Yv Yi Y] 166)).drew:=⟨_,rfl⟩
    have hG3:Grow wr w3:=by rw[hw3];exact ((Grow.refl _).alloc _ _).drew
    have bR:Blk w3 wr.heap.size #[Yv Yi X,Yv Yi Y] 166:=by rw[hw3];exact (Blk.new wr _ _).grow (Grow.refl _).drew
    have bZ3:=bZ2.grow hG3
    rw[←hw3]
    clear hw3
    obtain ⟨⟨m0,m1⟩, -⟩:=bR.two
    have hlt:=bR.lt
    go_wp2_with fail
    refine (Zag (X,Y) _).mono ?_
    rintro e w4 ⟨rfl,hG4⟩
    have bR4:=bR.grow hG4
    have bZ4:=bZ3.grow hG4
    obtain ⟨⟨n0,n1⟩, -⟩:=bR4.two
    obtain ⟨⟨z0,z1⟩,f0,f1⟩:=bZ4.two
    have hlt4:=bR4.lt
    have hltZ:=bZ4.lt
    clear m0 m1
    cases hr:isR (X,Y) with
    |true=>
     rw[hr,if_pos rfl] at Hl
     have hK:=((hG2.trans (hG3.trans hG4)).setCell (p:=⟨w.heap.size,0,none⟩) (Nat.le_refl _) (Yv Yi X)).setCell (p:=⟨w.heap.size,1,none⟩) (Nat.le_refl _) (Yv Yi Y)
     clear hr
     go_wp2
     exact Zp Zr rfl rfl rfl ((bZ4.set 0 _).set 1 _) ⟨by rw[Hl.out];rfl,hK⟩
    |false=>
     rw[hr,if_neg (by simp)] at Hl
     have hK:=((hG2.trans (hG3.trans hG4)).setCell (p:=⟨w.heap.size,0,none⟩) (Nat.le_refl _) (Yv Yi 0)).setCell (p:=⟨w.heap.size,1,none⟩) (Nat.le_refl _) (Yv Yi 0)
     clear hr
     go_wp2
     exact Zp Zr rfl rfl rfl ((bZ4.set 0 _).set 1 _) ⟨by rw[Hl.out];rfl,hK⟩
   ·have q1:(y !=0)=true:=by simp[hy0]
    have hm:=ZgP (b:=y) hx
    have hlt:=ZdT (a:=x) hy0
    have Hs:=hid (show ((Int.gcd y (x.tmod y):Nat):Int)=G by rw[Ze0,Hg.out])
    clear hn hd h0
    go_wp2
    go_region
    go_wp2
    go_roundw
    case rel=>exact ⟨hGr.drew,y,x.tmod y,rfl,rfl,hy,hm,Hs.out⟩
    case measure=>simp only[intOf];omega
theorem Zhg (a b:Rt) (w:World):Calls Tryz.prog 179 #[RV a,RV b] w fun e w'=>e= .returned (RV (Zar a b))/\Grow w w':=by
 obtain ⟨x,y⟩:=a
 obtain ⟨u,v⟩:=b
 have hG1:=(((Grow.refl w).alloc #[Yv Yi x,Yv Yi y] 166).alloc #[Yv Yi u,Yv Yi v] 166).alloc #[Yv Yi 0,Yv Yi 0] 166
 obtain ⟨w1,hw1⟩: ∃ z,z=((w.alloc (.cells #[Yv Yi x,Yv Yi y] 166)).alloc (.cells #[Yv Yi u,Yv Yi v] 166)).alloc (.cells #[Yv Yi 0,Yv Yi 0] 166):=⟨_,rfl⟩
 have bA:Blk w1 w.heap.size #[Yv Yi x,Yv Yi y] 166:=by rw[hw1];exact ((Blk.new _ _ _).alloc _).alloc _
 have bB:Blk w1 (w.heap.size+1) #[Yv Yi u,Yv Yi v] 166:=by rw[hw1];exact (Blk.newAt _ _ _ (by simp)).alloc _
 have bZ:Blk w1 (w.heap.size+1+1) #[Yv Yi 0,Yv Yi 0] 166:=by rw[hw1];exact Blk.newAt _ _ _ (by simp)
 rw[←hw1] at hG1
 obtain ⟨⟨a0,a1⟩, -⟩:=bA.two
 obtain ⟨⟨b0,b1⟩, -⟩:=bB.two
 have hlA:=bA.lt
 have hlB:=bB.lt
 rw[hw1] at a0 a1 b0 b1 hlA hlB
 go_enter Tryz.func179,Tryz.ntmps179
 go_wp2_with fail
 rw[←hw1]
 clear hw1
 refine (Zag (x,y) _).mono ?_
 rintro e w2 ⟨rfl,hG2⟩
 replace bA:=bA.grow hG2
 replace bB:=bB.grow hG2
 replace bZ:=bZ.grow hG2
 replace hG1:=hG1.trans hG2
 clear a0 a1 b0 b1 hlA hlB
 obtain ⟨⟨a0,a1⟩, -⟩:=bA.two
 obtain ⟨⟨b0,b1⟩, -⟩:=bB.two
 have hlA:=bA.lt
 have hlB:=bB.lt
 cases ha:isR (x,y) with
 |false=>
  have Hr:=hid (show Zar (x,y) (u,v)=rt0 by unfold Zar;rw[ha];rfl)
  clear ha
  obtain ⟨⟨z0,z1⟩,f0,f1⟩:=bZ.two
  have hltZ:=bZ.lt
  have hK:=(hG1.setCell (p:=⟨w.heap.size+1+1,0,none⟩) (by show _<=w.heap.size+1+1;omega) (Yv Yi 0)).setCell (p:=⟨w.heap.size+1+1,1,none⟩) (by show _<=w.heap.size+1+1;omega) (Yv Yi 0)
  go_wp2
  exact Zp Zr rfl rfl rfl ((bZ.set 0 _).set 1 _) ⟨by rw[Hr.out];rfl,hK⟩
 |true=>
  have hxa:=ZaA.1 ha
  have Ha:=hid ha
  clear ha
  go_wp2_with fail
  refine (Zag (u,v) _).mono ?_
  rintro e w3 ⟨rfl,hG3⟩
  replace bA:=bA.grow hG3
  replace bB:=bB.grow hG3
  replace bZ:=bZ.grow hG3
  replace hG1:=hG1.trans hG3
  clear a0 a1 b0 b1 hlA hlB
  obtain ⟨⟨a0,a1⟩, -⟩:=bA.two
  obtain ⟨⟨b0,b1⟩, -⟩:=bB.two
  have hlA:=bA.lt
  have hlB:=bB.lt
  cases hb:isR (u,v) with
  |false=>
   have Hr:=hid (show Zar (x,y) (u,v)=rt0 by unfold Zar;rw[Ha.out,hb];rfl)
   clear hb
   obtain ⟨⟨z0,z1⟩,f0,f1⟩:=bZ.two
   have hltZ:=bZ.lt
   have hK:=(hG1.setCell (p:=⟨w.heap.size+1+1,0,none⟩) (by show _<=w.heap.size+1+1;omega) (Yv Yi 0)).setCell (p:=⟨w.heap.size+1+1,1,none⟩) (by show _<=w.heap.size+1+1;omega) (Yv Yi 0)
   go_wp2
   exact Zp Zr rfl rfl rfl ((bZ.set 0 _).set 1 _) ⟨by rw[Hr.out];rfl,hK⟩
  |true=>
   have hxb:=ZaA.1 hb
   have Hb:=hid hb
   clear hb
   obtain ⟨⟨p1,p2⟩,⟨p3,p4⟩, -⟩:=hxa
   obtain ⟨⟨q1,q2⟩,⟨q3,q4⟩, -⟩:=hxb
   simp only at p1 p2 p3 p4 q1 q2 q3 q4
   have e1:=Zao (p:=400000000) (q:=400000000) ⟨p3,p4⟩ (b:=v) ⟨by omega,q2⟩
   have e2:=Zao (p:=400000000) (q:=400000000) ⟨q3,q4⟩ (b:=y) ⟨by omega,p2⟩
   have e3:=Zao (p:=400000000) (q:=400000000) (a:=y) ⟨by omega,p2⟩ (b:=v) ⟨by omega,q2⟩
   have e4:0<y*v:=Int.mul_pos (by omega) (by omega)
   obtain ⟨A,hA⟩: ∃ A,x*v=A:=⟨_,rfl⟩
   obtain ⟨B,hB⟩: ∃ B,u*y=B:=⟨_,rfl⟩
   obtain ⟨D,hD⟩: ∃ D,y*v=D:=⟨_,rfl⟩
   obtain ⟨N,hN⟩: ∃ N,A+B=N:=⟨_,rfl⟩
   have Hr:=hid (show Zar (x,y) (u,v)=Zbp N D by unfold Zar;rw[Ha.out,Hb.out, ←hN, ←hA, ←hB, ←hD];rfl)
   rw[hA] at e1
   rw[hB] at e2
   rw[hD] at e3 e4
   have w1':wrap64 (x*v)=A:=by rw[hA];exact ZD (by omega)
   have w2':wrap64 (u*y)=B:=by rw[hB];exact ZD (by omega)
   have w3':wrap64 (y*v)=D:=by rw[hD];exact ZD (by omega)
   have w4':wrap64 (A+B)=N:=by rw[hN];exact ZD (by omega)
   have hNb: -1000000000000000000<=N/\N<=1000000000000000000:=by omega
   clear e1 e2 hA hB hD hN
   go_wp2_with fail
   refine (Zil N D _ (by omega) (by omega) (by omega)).mono ?_
   rintro e w4 ⟨rfl,hG4⟩
   clear p1 p2 p3 p4 q1 q2 q3 q4
   replace bA:=bA.grow hG4
   replace bB:=bB.grow hG4
   replace bZ:=bZ.grow hG4
   replace hG1:=hG1.trans hG4
   clear a0 a1 b0 b1 hlA hlB
   obtain ⟨⟨a0,a1⟩, -⟩:=bA.two
   obtain ⟨⟨b0,b1⟩, -⟩:=bB.two
   have hlA:=bA.lt
   have hlB:=bB.lt
   obtain ⟨⟨z0,z1⟩,f0,f1⟩:=bZ.two
   have hltZ:=bZ.lt
   generalize Zbp N D=L at *
   obtain ⟨l1,l2⟩:=L
   have hK:=(hG1.setCell (p:=⟨w.heap.size+1+1,0,none⟩) (by show _<=w.heap.size+1+1;omega) (Yv Yi l1)).setCell (p:=⟨w.heap.size+1+1,1,none⟩) (by show _<=w.heap.size+1+1;omega) (Yv Yi l2)
   go_wp2
   exact Zp Zr rfl rfl rfl ((bZ.set 0 _).set 1 _) ⟨by rw[Hr.out];rfl,hK⟩
theorem Zdw (a b:Rt) (w:World):Calls Tryz.prog 181 #[RV a,RV b] w fun e w'=>e= .returned (RV (Zo a b))/\Grow w w':=by
 obtain ⟨x,y⟩:=a
 obtain ⟨u,v⟩:=b
 have hG1:=(((Grow.refl w).alloc #[Yv Yi x,Yv Yi y] 166).alloc #[Yv Yi u,Yv Yi v] 166).alloc #[Yv Yi 0,Yv Yi 0] 166
 obtain ⟨w1,hw1⟩: ∃ z,z=((w.alloc (.cells #[Yv Yi x,Yv Yi y] 166)).alloc (.cells #[Yv Yi u,Yv Yi v] 166)).alloc (.cells #[Yv Yi 0,Yv Yi 0] 166):=⟨_,rfl⟩
 have bA:Blk w1 w.heap.size #[Yv Yi x,Yv Yi y] 166:=by rw[hw1];exact ((Blk.new _ _ _).alloc _).alloc _
 have bB:Blk w1 (w.heap.size+1) #[Yv Yi u,Yv Yi v] 166:=by rw[hw1];exact (Blk.newAt _ _ _ (by simp)).alloc _
 have bZ:Blk w1 (w.heap.size+1+1) #[Yv Yi 0,Yv Yi 0] 166:=by rw[hw1];exact Blk.newAt _ _ _ (by simp)
 rw[←hw1] at hG1
 obtain ⟨⟨a0,a1⟩, -⟩:=bA.two
 obtain ⟨⟨b0,b1⟩, -⟩:=bB.two
 have hlA:=bA.lt
 have hlB:=bB.lt
 rw[hw1] at a0 a1 b0 b1 hlA hlB
 go_enter Tryz.func181,Tryz.ntmps181
 go_wp2_with fail
 rw[←hw1]
 clear hw1
 refine (Zag (x,y) _).mono ?_
 rintro e w2 ⟨rfl,hG2⟩
 replace bA:=bA.grow hG2
 replace bB:=bB.grow hG2
 replace bZ:=bZ.grow hG2
 replace hG1:=hG1.trans hG2
 clear a0 a1 b0 b1 hlA hlB
 obtain ⟨⟨a0,a1⟩, -⟩:=bA.two
 obtain ⟨⟨b0,b1⟩, -⟩:=bB.two
 have hlA:=bA.lt
 have hlB:=bB.lt
 cases ha:isR (x,y) with
 |false=>
  have Hr:=hid (show Zo (x,y) (u,v)=rt0 by unfold Zo;rw[ha];rfl)
  clear ha
  obtain ⟨⟨z0,z1⟩,f0,f1⟩:=bZ.two
  have hltZ:=bZ.lt
  have hK:=(hG1.setCell (p:=⟨w.heap.size+1+1,0,none⟩) (by show _<=w.heap.size+1+1;omega) (Yv Yi 0)).setCell (p:=⟨w.heap.size+1+1,1,none⟩) (by show _<=w.heap.size+1+1;omega) (Yv Yi 0)
  go_wp2
  exact Zp Zr rfl rfl rfl ((bZ.set 0 _).set 1 _) ⟨by rw[Hr.out];rfl,hK⟩
 |true=>
  have hxa:=ZaA.1 ha
  have Ha:=hid ha
  clear ha
  go_wp2_with fail
  refine (Zag (u,v) _).mono ?_
  rintro e w3 ⟨rfl,hG3⟩
  replace bA:=bA.grow hG3
  replace bB:=bB.grow hG3
  replace bZ:=bZ.grow hG3
  replace hG1:=hG1.trans hG3
  clear a0 a1 b0 b1 hlA hlB
  obtain ⟨⟨a0,a1⟩, -⟩:=bA.two
  obtain ⟨⟨b0,b1⟩, -⟩:=bB.two
  have hlA:=bA.lt
  have hlB:=bB.lt
  cases hb:isR (u,v) with
  |false=>
   have Hr:=hid (show Zo (x,y) (u,v)=rt0 by unfold Zo;rw[Ha.out,hb];rfl)
   clear hb
   obtain ⟨⟨z0,z1⟩,f0,f1⟩:=bZ.two
   have hltZ:=bZ.lt
   have hK:=(hG1.setCell (p:=⟨w.heap.size+1+1,0,none⟩) (by show _<=w.heap.size+1+1;omega) (Yv Yi 0)).setCell (p:=⟨w.heap.size+1+1,1,none⟩) (by show _<=w.heap.size+1+1;omega) (Yv Yi 0)
   go_wp2
   exact Zp Zr rfl rfl rfl ((bZ.set 0 _).set 1 _) ⟨by rw[Hr.out];rfl,hK⟩
  |true=>
   have hxb:=ZaA.1 hb
   have Hb:=hid hb
   clear hb
   obtain ⟨⟨p1,p2⟩,⟨p3,p4⟩, -⟩:=hxa
   obtain ⟨⟨q1,q2⟩,⟨q3,q4⟩, -⟩:=hxb
   simp only at p1 p2 p3 p4 q1 q2 q3 q4
   have e1:=Zao (p:=400000000) (q:=400000000) ⟨p3,p4⟩ (b:=u) ⟨q3,q4⟩
   have e3:=Zao (p:=400000000) (q:=400000000) (a:=y) ⟨by omega,p2⟩ (b:=v) ⟨by omega,q2⟩
   have e4:0<y*v:=Int.mul_pos (by omega) (by omega)
   obtain ⟨N,hN⟩: ∃ N,x*u=N:=⟨_,rfl⟩
   obtain ⟨D,hD⟩: ∃ D,y*v=D:=⟨_,rfl⟩
   have Hr:=hid (show Zo (x,y) (u,v)=Zbp N D by unfold Zo;rw[Ha.out,Hb.out, ←hN, ←hD];rfl)
   rw[hN] at e1
   rw[hD] at e3 e4
   have w1':wrap64 (x*u)=N:=by rw[hN];exact ZD (by omega)
   have w3':wrap64 (y*v)=D:=by rw[hD];exact ZD (by omega)
   clear hD hN
   go_wp2_with fail
   refine (Zil N D _ (by omega) (by omega) (by omega)).mono ?_
   rintro e w4 ⟨rfl,hG4⟩
   clear p1 p2 p3 p4 q1 q2 q3 q4
   replace bA:=bA.grow hG4
   replace bB:=bB.grow hG4
   replace bZ:=bZ.grow hG4
   replace hG1:=hG1.trans hG4
   clear a0 a1 b0 b1 hlA hlB
   obtain ⟨⟨a0,a1⟩, -⟩:=bA.two
   obtain ⟨⟨b0,b1⟩, -⟩:=bB.two
   have hlA:=bA.lt
   have hlB:=bB.lt
   obtain ⟨⟨z0,z1⟩,f0,f1⟩:=bZ.two
   have hltZ:=bZ.lt
   generalize Zbp N D=L at *
   obtain ⟨l1,l2⟩:=L
   have hK:=(hG1.setCell (p:=⟨w.heap.size+1+1,0,none⟩) (by show _<=w.heap.size+1+1;omega) (Yv Yi l1)).setCell (p:=⟨w.heap.size+1+1,1,none⟩) (by show _<=w.heap.size+1+1;omega) (Yv Yi l2)
   go_wp2
   exact Zp Zr rfl rfl rfl ((bZ.set 0 _).set 1 _) ⟨by rw[Hr.out];rfl,hK⟩
theorem ZnY (a b:Rt) (w:World):Calls Tryz.prog 182 #[RV a,RV b] w fun e w'=>e= .returned (RV (Za2 a b))/\Grow w w':=by
 obtain ⟨x,y⟩:=a
 obtain ⟨u,v⟩:=b
 have hG1:=(((Grow.refl w).alloc #[Yv Yi x,Yv Yi y] 166).alloc #[Yv Yi u,Yv Yi v] 166).alloc #[Yv Yi 0,Yv Yi 0] 166
 obtain ⟨w1,hw1⟩: ∃ z,z=((w.alloc (.cells #[Yv Yi x,Yv Yi y] 166)).alloc (.cells #[Yv Yi u,Yv Yi v] 166)).alloc (.cells #[Yv Yi 0,Yv Yi 0] 166):=⟨_,rfl⟩
 have bA:Blk w1 w.heap.size #[Yv Yi x,Yv Yi y] 166:=by rw[hw1];exact ((Blk.new _ _ _).alloc _).alloc _
 have bB:Blk w1 (w.heap.size+1) #[Yv Yi u,Yv Yi v] 166:=by rw[hw1];exact (Blk.newAt _ _ _ (by simp)).alloc _
 have bZ:Blk w1 (w.heap.size+1+1) #[Yv Yi 0,Yv Yi 0] 166:=by rw[hw1];exact Blk.newAt _ _ _ (by simp)
 rw[←hw1] at hG1
 obtain ⟨⟨a0,a1⟩, -⟩:=bA.two
 obtain ⟨⟨b0,b1⟩, -⟩:=bB.two
 have hlA:=bA.lt
 have hlB:=bB.lt
 rw[hw1] at a0 a1 b0 b1 hlA hlB
 go_enter Tryz.func182,Tryz.ntmps182
 go_wp2_with fail
 rw[←hw1]
 clear hw1
 refine (Zag (x,y) _).mono ?_
 rintro e w2 ⟨rfl,hG2⟩
 replace bA:=bA.grow hG2
 replace bB:=bB.grow hG2
 replace bZ:=bZ.grow hG2
 replace hG1:=hG1.trans hG2
 clear a0 a1 b0 b1 hlA hlB
 obtain ⟨⟨a0,a1⟩, -⟩:=bA.two
 obtain ⟨⟨b0,b1⟩, -⟩:=bB.two
 have hlA:=bA.lt
 have hlB:=bB.lt
 cases ha:isR (x,y) with
 |false=>
  have Hr:=hid (show Za2 (x,y) (u,v)=rt0 by unfold Za2;rw[ha];rfl)
  clear ha
  obtain ⟨⟨z0,z1⟩,f0,f1⟩:=bZ.two
  have hltZ:=bZ.lt
  have hK:=(hG1.setCell (p:=⟨w.heap.size+1+1,0,none⟩) (by show _<=w.heap.size+1+1;omega) (Yv Yi 0)).setCell (p:=⟨w.heap.size+1+1,1,none⟩) (by show _<=w.heap.size+1+1;omega) (Yv Yi 0)
  go_wp2
  exact Zp Zr rfl rfl rfl ((bZ.set 0 _).set 1 _) ⟨by rw[Hr.out];rfl,hK⟩
 |true=>
  have hxa:=ZaA.1 ha
  have Ha:=hid ha
  clear ha
  go_wp2_with fail
  refine (Zag (u,v) _).mono ?_
  rintro e w3 ⟨rfl,hG3⟩
  replace bA:=bA.grow hG3
  replace bB:=bB.grow hG3
  replace bZ:=bZ.grow hG3
  replace hG1:=hG1.trans hG3
  clear a0 a1 b0 b1 hlA hlB
  obtain ⟨⟨a0,a1⟩, -⟩:=bA.two
  obtain ⟨⟨b0,b1⟩, -⟩:=bB.two
  have hlA:=bA.lt
  have hlB:=bB.lt
  cases hb:isR (u,v) with
  |false=>
   have Hr:=hid (show Za2 (x,y) (u,v)=rt0 by unfold Za2;rw[Ha.out,hb];rfl)
   clear hb
   obtain ⟨⟨z0,z1⟩,f0,f1⟩:=bZ.two
   have hltZ:=bZ.lt
   have hK:=(hG1.setCell (p:=⟨w.heap.size+1+1,0,none⟩) (by show _<=w.heap.size+1+1;omega) (Yv Yi 0)).setCell (p:=⟨w.heap.size+1+1,1,none⟩) (by show _<=w.heap.size+1+1;omega) (Yv Yi 0)
   go_wp2
   exact Zp Zr rfl rfl rfl ((bZ.set 0 _).set 1 _) ⟨by rw[Hr.out];rfl,hK⟩
  |true=>
   have hxb:=ZaA.1 hb
   have Hb:=hid hb
   clear hb
   obtain ⟨⟨p1,p2⟩,⟨p3,p4⟩, -⟩:=hxa
   obtain ⟨⟨q1,q2⟩,⟨q3,q4⟩, -⟩:=hxb
   simp only at p1 p2 p3 p4 q1 q2 q3 q4
   by_cases hu:u=0
   ·have Hr:=hid (show Za2 (x,y) (u,v)=rt0 by unfold Za2;simp only[hu];simp)
    subst hu
    obtain ⟨⟨z0,z1⟩,f0,f1⟩:=bZ.two
    have hltZ:=bZ.lt
    have hK:=(hG1.setCell (p:=⟨w.heap.size+1+1,0,none⟩) (by show _<=w.heap.size+1+1;omega) (Yv Yi 0)).setCell (p:=⟨w.heap.size+1+1,1,none⟩) (by show _<=w.heap.size+1+1;omega) (Yv Yi 0)
    go_wp2
    exact Zp Zr rfl rfl rfl ((bZ.set 0 _).set 1 _) ⟨by rw[Hr.out];rfl,hK⟩
   ·have hu':(u==0)=false:=by rw[beq_eq_false_iff_ne];exact hu
    have e1:=Zao (p:=400000000) (q:=400000000) ⟨p3,p4⟩ (b:=v) ⟨by omega,q2⟩
    have e3:=Zao (p:=400000000) (q:=400000000) (a:=y) ⟨by omega,p2⟩ (b:=u) ⟨q3,q4⟩
    have e4: ¬ y*u=0:=fun e=>by rcases Int.mul_eq_zero.1 e with h|h<;>omega
    obtain ⟨N,hN⟩: ∃ N,x*v=N:=⟨_,rfl⟩
    obtain ⟨D,hD⟩: ∃ D,y*u=D:=⟨_,rfl⟩
    have Hr:=hid (show Za2 (x,y) (u,v)=Zbp N D by unfold Za2;rw[Ha.out,Hb.out, ←hN, ←hD];simp[hu])
    rw[hN] at e1
    rw[hD] at e3 e4
    have w1':wrap64 (x*v)=N:=by rw[hN];exact ZD (by omega)
    have w3':wrap64 (y*u)=D:=by rw[hD];exact ZD (by omega)
    clear hD hN
    go_wp2_with fail
    refine (Zil N D _ (by omega) (by omega) (by omega)).mono ?_
    rintro e w4 ⟨rfl,hG4⟩
    clear p1 p2 p3 p4 q1 q2 q3 q4
    replace bA:=bA.grow hG4
    replace bB:=bB.grow hG4
    replace bZ:=bZ.grow hG4
    replace hG1:=hG1.trans hG4
    clear a0 a1 b0 b1 hlA hlB
    obtain ⟨⟨a0,a1⟩, -⟩:=bA.two
    obtain ⟨⟨b0,b1⟩, -⟩:=bB.two
    have hlA:=bA.lt
    have hlB:=bB.lt
    obtain ⟨⟨z0,z1⟩,f0,f1⟩:=bZ.two
    have hltZ:=bZ.lt
    generalize Zbp N D=L at *
    obtain ⟨l1,l2⟩:=L
    have hK:=(hG1.setCell (p:=⟨w.heap.size+1+1,0,none⟩) (by show _<=w.heap.size+1+1;omega) (Yv Yi l1)).setCell (p:=⟨w.heap.size+1+1,1,none⟩) (by show _<=w.heap.size+1+1;omega) (Yv Yi l2)
    go_wp2
    exact Zp Zr rfl rfl rfl ((bZ.set 0 _).set 1 _) ⟨by rw[Hr.out];rfl,hK⟩
theorem Zhi (a:Rt) (w:World):Calls Tryz.prog 180 #[RV a] w fun e w'=>e= .returned (RV (Zav a))/\Grow w w':=by
 obtain ⟨x,y⟩:=a
 have hG1:=((Grow.refl w).alloc #[Yv Yi x,Yv Yi y] 166).alloc #[Yv Yi 0,Yv Yi 0] 166
 obtain ⟨w1,hw1⟩: ∃ z,z=(w.alloc (.cells #[Yv Yi x,Yv Yi y] 166)).alloc (.cells #[Yv Yi 0,Yv Yi 0] 166):=⟨_,rfl⟩
 have bA:Blk w1 w.heap.size #[Yv Yi x,Yv Yi y] 166:=by rw[hw1];exact (Blk.new _ _ _).alloc _
 have bZ:Blk w1 (w.heap.size+1) #[Yv Yi 0,Yv Yi 0] 166:=by rw[hw1];exact Blk.newAt _ _ _ (by simp)
 rw[←hw1] at hG1
 obtain ⟨⟨a0,a1⟩, -⟩:=bA.two
 have hlA:=bA.lt
 rw[hw1] at a0 a1 hlA
 go_enter Tryz.func180,Tryz.ntmps180
 go_wp2_with fail
 rw[←hw1]
 clear hw1 a0 a1 hlA
 refine (Zag (x,y) _).mono ?_
 rintro e w2 ⟨rfl,hG2⟩
 replace bA:=bA.grow hG2
 replace bZ:=bZ.grow hG2
 replace hG1:=hG1.trans hG2
 obtain ⟨⟨a0,a1⟩, -⟩:=bA.two
 obtain ⟨⟨z0,z1⟩,f0,f1⟩:=bZ.two
 have hlA:=bA.lt
 have hltZ:=bZ.lt
 cases ha:isR (x,y) with
 |false=>
  have Hr:=hid (show Zav (x,y)=rt0 by unfold Zav;rw[ha];rfl)
  clear ha
  have hK:=(hG1.setCell (p:=⟨w.heap.size+1,0,none⟩) (by show _<=w.heap.size+1;omega) (Yv Yi 0)).setCell (p:=⟨w.heap.size+1,1,none⟩) (by show _<=w.heap.size+1;omega) (Yv Yi 0)
  go_wp2
  exact Zp Zr rfl rfl rfl ((bZ.set 0 _).set 1 _) ⟨by rw[Hr.out];rfl,hK⟩
 |true=>
  have hxa:=ZaA.1 ha
  have Hr:=hid (show Zav (x,y)=(-x,y) by unfold Zav;rw[ha];rfl)
  clear ha
  obtain ⟨⟨p1,p2⟩,⟨p3,p4⟩, -⟩:=hxa
  simp only at p1 p2 p3 p4
  have w1':wrap64 (-x)= -x:=ZD (by omega)
  have hK:=(hG1.setCell (p:=⟨w.heap.size+1,0,none⟩) (by show _<=w.heap.size+1;omega) (Yv Yi (-x))).setCell (p:=⟨w.heap.size+1,1,none⟩) (by show _<=w.heap.size+1;omega) (Yv Yi y)
  go_wp2
  exact Zp Zr rfl rfl rfl ((bZ.set 0 _).set 1 _) ⟨by rw[Hr.out];rfl,hK⟩
theorem Zmr (n d:Int) (w:World) (hn: -4000000000<=n/\n<=4000000000) (hd:0<d/\d<=4000000000):Calls Tryz.prog 173 #[Yv Yi n,Yv Yi d] w fun e w'=>e= .returned (Yv Yi (n/d))/\Grow w w':=by
 have h2:=Zbx n d
 have hd0: ¬ d=0:=by omega
 by_cases h:n.tmod d<0
 ·have h1:=(Zhu (by omega) h).1
  rw[Int.sign_eq_one_of_pos hd.1] at h1
  have H:=hid h1;clear h1
  have w1':wrap64 (n.tdiv d)=n.tdiv d:=ZD (by omega)
  have w2':wrap64 (n.tdiv d-1)=n.tdiv d-1:=ZD (by omega)
  go_enter Tryz.func173,Tryz.ntmps173
  go_wp2
  go_ret
  exact ⟨ZK (by rw[H.out];omega),Grow.refl _⟩
 ·have h1:=(ZhD (n:=n) (d:=d) (by omega) (by omega)).1
  have H:=hid h1;clear h1
  have w1':wrap64 (n.tdiv d)=n.tdiv d:=ZD (by omega)
  go_enter Tryz.func173,Tryz.ntmps173
  go_wp2
  go_ret
  exact ⟨ZK H.out,Grow.refl _⟩
theorem ZjO (a:Rt) (w:World):Calls Tryz.prog 157 #[RV a] w fun e w'=>e= .returned (Yv Yi (Zat a))/\Grow w w':=by
 obtain ⟨x,y⟩:=a
 have hG1:=(Grow.refl w).alloc #[Yv Yi x,Yv Yi y] 166
 have bA:=Blk.new w #[Yv Yi x,Yv Yi y] 166
 obtain ⟨⟨a0,a1⟩, -⟩:=bA.two
 have hlA:=bA.lt
 go_enter Tryz.func157,Tryz.ntmps157
 go_wp2_with fail
 clear a0 a1 hlA
 refine (Zag (x,y) _).mono ?_
 rintro e w2 ⟨rfl,hG2⟩
 replace bA:=bA.grow hG2
 replace hG1:=hG1.trans hG2
 obtain ⟨⟨a0,a1⟩, -⟩:=bA.two
 have hlA:=bA.lt
 cases ha:isR (x,y) with
 |false=>
  have Hr:=hid (show Zat (x,y)=0 by unfold Zat;rw[ha];rfl)
  clear ha
  go_wp2
  go_ret
  exact ⟨ZK Hr.out.symm,hG1⟩
 |true=>
  have hxa:=ZaA.1 ha
  have Hr:=hid (show Zat (x,y)=(2*x+y)/(2*y) by unfold Zat;rw[ha];rfl)
  clear ha
  obtain ⟨⟨p1,p2⟩,⟨p3,p4⟩, -⟩:=hxa
  simp only at p1 p2 p3 p4
  have w1':wrap64 (2*x)=2*x:=ZD (by omega)
  have w2':wrap64 (2*y)=2*y:=ZD (by omega)
  have w3':wrap64 (2*x+y)=2*x+y:=ZD (by omega)
  go_wp2_with fail
  refine (Zmr (2*x+y) (2*y) _ (by omega) (by omega)).mono ?_
  rintro e w3 ⟨rfl,hG3⟩
  go_wp2
  go_ret
  exact ⟨ZK Hr.out.symm,hG1.trans hG3⟩
theorem Zn3 (a b:Rt) (w:World):Calls Tryz.prog 184 #[RV a,RV b] w fun e w'=>e= .returned (Yv Yi (ZY a b))/\Grow w w':=by
 obtain ⟨x,y⟩:=a
 obtain ⟨u,v⟩:=b
 have hG1:=((Grow.refl w).alloc #[Yv Yi x,Yv Yi y] 166).alloc #[Yv Yi u,Yv Yi v] 166
 obtain ⟨w1,hw1⟩: ∃ z,z=(w.alloc (.cells #[Yv Yi x,Yv Yi y] 166)).alloc (.cells #[Yv Yi u,Yv Yi v] 166):=⟨_,rfl⟩
 have bA:Blk w1 w.heap.size #[Yv Yi x,Yv Yi y] 166:=by rw[hw1];exact (Blk.new _ _ _).alloc _
 have bB:Blk w1 (w.heap.size+1) #[Yv Yi u,Yv Yi v] 166:=by rw[hw1];exact Blk.newAt _ _ _ (by simp)
 rw[←hw1] at hG1
 obtain ⟨⟨a0,a1⟩, -⟩:=bA.two
 obtain ⟨⟨b0,b1⟩, -⟩:=bB.two
 have hlA:=bA.lt
 have hlB:=bB.lt
 rw[hw1] at a0 a1 b0 b1 hlA hlB
 go_enter Tryz.func184,Tryz.ntmps184
 go_wp2_with fail
 rw[←hw1]
 clear hw1 a0 a1 b0 b1 hlA hlB
 refine (Zag (x,y) _).mono ?_
 rintro e w2 ⟨rfl,hG2⟩
 replace bA:=bA.grow hG2
 replace bB:=bB.grow hG2
 replace hG1:=hG1.trans hG2
 obtain ⟨⟨a0,a1⟩, -⟩:=bA.two
 obtain ⟨⟨b0,b1⟩, -⟩:=bB.two
 have hlA:=bA.lt
 have hlB:=bB.lt
 cases ha:isR (x,y) with
 |false=>
  have Hr:=hid (show ZY (x,y) (u,v)=2 by unfold ZY;rw[ha];rfl)
  clear ha
  go_wp2
  go_ret
  exact ⟨ZK Hr.out.symm,hG1⟩
 |true=>
  have hxa:=ZaA.1 ha
  have Ha:=hid ha
  clear ha
  go_wp2_with fail
  refine (Zag (u,v) _).mono ?_
  rintro e w3 ⟨rfl,hG3⟩
  replace bA:=bA.grow hG3
  replace bB:=bB.grow hG3
  replace hG1:=hG1.trans hG3
  clear a0 a1 b0 b1 hlA hlB
  obtain ⟨⟨a0,a1⟩, -⟩:=bA.two
  obtain ⟨⟨b0,b1⟩, -⟩:=bB.two
  have hlA:=bA.lt
  have hlB:=bB.lt
  cases hb:isR (u,v) with
  |false=>
   have Hr:=hid (show ZY (x,y) (u,v)=2 by unfold ZY;rw[Ha.out,hb];rfl)
   clear hb
   go_wp2
   go_ret
   exact ⟨ZK Hr.out.symm,hG1⟩
  |true=>
   have hxb:=ZaA.1 hb
   obtain ⟨⟨p1,p2⟩,⟨p3,p4⟩, -⟩:=hxa
   obtain ⟨⟨q1,q2⟩,⟨q3,q4⟩, -⟩:=hxb
   simp only at p1 p2 p3 p4 q1 q2 q3 q4
   have e1:=Zao (p:=400000000) (q:=400000000) ⟨p3,p4⟩ (b:=v) ⟨by omega,q2⟩
   have e2:=Zao (p:=400000000) (q:=400000000) ⟨q3,q4⟩ (b:=y) ⟨by omega,p2⟩
   obtain ⟨A,hA⟩: ∃ A,x*v=A:=⟨_,rfl⟩
   obtain ⟨B,hB⟩: ∃ B,u*y=B:=⟨_,rfl⟩
   have Hr:=hid (show ZY (x,y) (u,v)=if A<B then -1 else if B<A then 1 else 0 by unfold ZY;rw[Ha.out,hb, ←hA, ←hB];rfl)
   rw[hA] at e1
   rw[hB] at e2
   have w1':wrap64 (x*v)=A:=by rw[hA];exact ZD (by omega)
   have w2':wrap64 (u*y)=B:=by rw[hB];exact ZD (by omega)
   clear hA hB e1 e2 hb
   by_cases h1:A<B
   ·rw[if_pos h1] at Hr
    go_wp2
    go_ret
    exact ⟨ZK Hr.out.symm,hG1⟩
   ·rw[if_neg h1] at Hr
    by_cases h2:B<A
    ·rw[if_pos h2] at Hr
     go_wp2
     go_ret
     exact ⟨ZK Hr.out.symm,hG1⟩
    ·rw[if_neg h2] at Hr
     go_wp2
     go_ret
     exact ⟨ZK Hr.out.symm,hG1⟩
def Zh1 (c:Int):Bool:=decide (0<=c)&& !decide (c=2)
theorem ZoE (m l s:Rt) (w:World):Calls Tryz.prog 159 #[RV m,RV l,RV s] w fun e w'=>e= .returned (.tuple #[.bool (Zh1 (ZY s (Zo (Zar (3,4) (Zav (Zo m m))) l))), .bool (!decide (ZY s (Zo (Zar (3,4) (Zav (Zo m m))) l)=2))])/\Grow w w':=by
 obtain ⟨m1,m2⟩:=m
 obtain ⟨l1,l2⟩:=l
 obtain ⟨s1,s2⟩:=s
 obtain ⟨w1,hw1⟩: ∃ z,z=((w.alloc (.cells #[Yv Yi m1,Yv Yi m2] 166)).alloc (.cells #[Yv Yi l1,Yv Yi l2] 166)).alloc (.cells #[Yv Yi s1,Yv Yi s2] 166):=⟨_,rfl⟩
 have hG1:Grow w w1:=by rw[hw1];exact (((Grow.refl w).alloc _ _).alloc _ _).alloc _ _
 have bM:Blk w1 w.heap.size #[Yv Yi m1,Yv Yi m2] 166:=by rw[hw1];exact ((Blk.new _ _ _).alloc _).alloc _
 have bL:Blk w1 (w.heap.size+1) #[Yv Yi l1,Yv Yi l2] 166:=by rw[hw1];exact (Blk.newAt _ _ _ (by simp)).alloc _
 have bS:Blk w1 (w.heap.size+1+1) #[Yv Yi s1,Yv Yi s2] 166:=by rw[hw1];exact Blk.newAt _ _ _ (by simp)
 obtain ⟨⟨a0,a1⟩, -⟩:=bM.two
 have hlA:=bM.lt
 rw[hw1] at a0 a1 hlA
 have Hw1:=hid hw1
 clear hw1
 go_enter Tryz.func159,Tryz.ntmps159
 go_wp2_with fail
 rw[←Hw1.out]
 refine (Zdw (m1,m2) (m1,m2) _).mono ?_
 rintro e w2 ⟨rfl,hG2⟩
 go_wp2_with fail
 refine (Zhi (Zo (m1,m2) (m1,m2)) _).mono ?_
 rintro e w3 ⟨rfl,hG3⟩
 go_wp2_with fail
 refine (Zhg (3,4) (Zav (Zo (m1,m2) (m1,m2))) _).mono ?_
 rintro e w4 ⟨rfl,hG4⟩
 have hG14:=(hG2.trans hG3).trans hG4
 obtain ⟨X,hX⟩: ∃ X,X=Zar (3,4) (Zav (Zo (m1,m2) (m1,m2))):=⟨_,rfl⟩
 rw[←hX]
 have HX:=hid hX
 clear hX
 obtain ⟨x1,x2⟩:=X
 obtain ⟨w5,hw5⟩: ∃ z,z=w4.alloc (.cells #[Yv Yi x1,Yv Yi x2] 166):=⟨_,rfl⟩
 have hG5:Grow w4 w5:=by rw[hw5];exact (Grow.refl _).alloc _ _
 have bX:Blk w5 w4.heap.size #[Yv Yi x1,Yv Yi x2] 166:=by rw[hw5];exact Blk.new _ _ _
 have bL5:=(bL.grow hG14).grow hG5
 have bS5:=(bS.grow hG14).grow hG5
 have hG:=(hG1.trans hG14).trans hG5
 have Hw5:=hid hw5
 clear hw5 a0 a1 hlA
 go_wp2
 rw[show (RV (x1,x2))= .agg #[Yv Yi x1,Yv Yi x2] from rfl]
 go_wp2
 rw[←Hw5.out]
 refine Zj (S:=Grow w5) [([0,1,2],some 3),([],some 4),([5],none)] Zn (by kernel_rfl) (fun _ _ _ _ _ h=>h) (Grow.refl _).drew ?_
 show wpQuiet _ _ _ _ [_,_,_] _
 repeat (first |go_big_quiet_skip|(go_big_quiet_want;first |(apply ZG Zr;rfl;rfl;exact (fun w' hG=>bX.grow hG);go_big_quiet_on;simp only[putP])|(apply ZG Zr;rfl;rfl;exact (fun w' hG=>bL5.grow hG);go_big_quiet_on;simp only[putP])|(apply ZG Zr;rfl;rfl;exact (fun w' hG=>bS5.grow hG);go_big_quiet_on;simp only[putP])|(go_big_quiet_op;first |go_big_quiet_on|(refine ⟨_,(fun _ _=>rfl), ?_⟩;go_big_quiet_on))))
 refine wpQuiet_nil ?_
 refine Zk rfl (fun K hK=> ?_)
 go_wp2_with fail
 refine (Zdw (x1,x2) (l1,l2) _).mono ?_
 rintro e w6 ⟨rfl,hG6⟩
 have hGa:=(Grow.refl w5).drew.trans hG6
 go_wp2_with fail
 refine hK _ _ (hGa) ?_
 clear hK K
 show wpQuiet _ _ _ _ [] _
 try (conv=>arg 6;simp only[putP])
 refine wpQuiet_nil ?_
 refine Zk rfl (fun K hK=> ?_)
 go_wp2_with fail
 refine (Zn3 (s1,s2) (Zo (x1,x2) (l1,l2)) _).mono ?_
 rintro e w7 ⟨rfl,hG7⟩
 have hGb:=hGa.trans hG7
 go_wp2_with fail
 refine hK _ _ (hGb) ?_
 clear hK K
 show wpQuiet _ _ _ _ [_] _
 try (conv=>arg 6;simp only[putP])
 repeat (first |go_big_quiet_skip|(go_big_quiet_want;first |(apply ZG Zr;rfl;rfl;exact (fun w' hG=>bX.grow hG);go_big_quiet_on;simp only[putP])|(apply ZG Zr;rfl;rfl;exact (fun w' hG=>bL5.grow hG);go_big_quiet_on;simp only[putP])|(apply ZG Zr;rfl;rfl;exact (fun w' hG=>bS5.grow hG);go_big_quiet_on;simp only[putP])|(go_big_quiet_op;first |go_big_quiet_on|(refine ⟨_,(fun _ _=>rfl), ?_⟩;go_big_quiet_on))))
 refine wpQuiet_nil ?_
 refine Zm ?_
 have hc:=Ziu (s1,s2) (Zo (x1,x2) (l1,l2))
 obtain ⟨c,hc0⟩: ∃ c,c=ZY (s1,s2) (Zo (x1,x2) (l1,l2)):=⟨_,rfl⟩
 rw[←hc0] at hc ⊢
 have HC:=hid (show ZY (s1,s2) (Zo (Zar (3,4) (Zav (Zo (m1,m2) (m1,m2)))) (l1,l2))=c by rw[←HX.out,hc0])
 clear hc0
 rcases hc with rfl|rfl|rfl|rfl
 all_goals (go_wp2;go_ret2;exact ⟨by rw[HC.out];rfl,hG.trans hGb⟩)

end Go.Proofs.YtgeoehnbpkediaaGreat
