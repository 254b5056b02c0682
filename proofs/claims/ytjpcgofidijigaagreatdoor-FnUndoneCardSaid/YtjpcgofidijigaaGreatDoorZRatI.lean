/- Fractions: the program's functions. -/
import Derived.Test.YtjpcgofidijigaaGreatDoorZDet
set_option maxHeartbeats 8000000
set_option maxRecDepth 100000
namespace Go.Proofs.YtjpcgofidijigaaGreatDoor
open Go.RowKit
open Lib (hid)
open Go.Value renaming int->Yv
open Go.IntKind renaming i64->Yi
variable {a b x y:Int} {g:Nat} {t:TypeId}
theorem Zaj:StT Tryz.prog 240 2:=⟨_,Tryz.underlying240,by kernel_rfl⟩
abbrev RV (r:Rt):Value:= .agg #[Yv Yi r.1,Yv Yi r.2]
theorem Blk.two {w:World} {x y:Value} (h:Blk w g #[x,y] t):
  (w.cell? ⟨g,0,none⟩=some x/\w.cell? ⟨g,1,none⟩=some y)/\w.frozen? ⟨g,0,none⟩=false/\w.frozen? ⟨g,1,none⟩=false:=
 ⟨⟨h.cell 0,h.cell 1⟩,h.free 0,h.free 1⟩
theorem ZA {P:Program} {C:World->Prop} {o:Oper} {a:Act} {K:Act->Prop} {ty:TypeId} {x:Operand} {u v:Value} (hty:StT P ty 2) (ho:o.op= .load ty x) (hx:a.eval x= .pointer (some ⟨g,0,none⟩))
  (hv: ∀ w',C w'->Blk w' g #[u,v] t) (hk:K (a.put o.dst (.agg #[u,v]))):o.quiet P a C K:=Zag (cs:= #[u,v]) hty ho hx hv hk
theorem ZpA:Int.gcd b (a.tmod b)=Int.gcd a b:=by
 unfold Int.gcd;rw[Int.natAbs_tmod,Nat.gcd_comm b.natAbs, ←Nat.gcd_rec,Nat.gcd_comm]
theorem ZqU (a:Int):Int.gcd a 0=a.natAbs:=by simp[Int.gcd]
theorem ZmO (hb:b≠0):(a.tmod b).natAbs<b.natAbs:=by
 rw[Int.natAbs_tmod];exact Nat.mod_lt _ (by omega)
theorem Zoj (ha: -1000000000000000000<=a/\a<=1000000000000000000): -1000000000000000000<=a.tmod b/\a.tmod b<=1000000000000000000:=by
 have h1:=Int.natAbs_tmod a b;have h2:=Nat.mod_le a.natAbs b.natAbs;omega
theorem ZjJ (a b:Int) (w:World) (ha: -1000000000000000000<=a/\a<=1000000000000000000) (hb: -1000000000000000000<=b/\b<=1000000000000000000):Calls Tryz.prog 108 #[Yv Yi a,Yv Yi b] w fun e w'=>e= .returned (Yv Yi ((Int.gcd a b:Nat):Int))/\Grow w w':=by
 obtain ⟨G,hG⟩: ∃ G,G=Int.gcd a b:=⟨_,rfl⟩;have HR:=hid hG.symm;go_enter Tryz.func108,Tryz.ntmps108;go_wp2;go_loopw [0,1] (fun av bv wr=>Grow w wr/\ ∃ x y:Int,av=Yv Yi x/\bv=Yv Yi y/\(-1000000000000000000<=x/\x<=1000000000000000000)/\(-1000000000000000000<=y/\y<=1000000000000000000)/\Int.gcd x y=G) (fun _ bv _=>(intOf bv).natAbs);case atStart=>exact ⟨Grow.refl _,a,b,rfl,rfl,ha,hb,hG.symm⟩
 case round=>
  clear ha hb hG;obtain ⟨hGr,x,y,rfl,rfl,hx,hy,hg⟩:=hrel;have Hg:=hid hg;clear hg;by_cases h0:y=0
  ·have q1:(y !=0)=false:=(by simp[h0]);have HE:=hid (show (x.natAbs:Int)=((Int.gcd a b:Nat):Int) by rw[HR.out, ←Hg.out,h0,ZqU]);go_wp2_with fail;refine (Zdb x _ (by omega)).mono ?_;rintro e _ ⟨rfl,rfl⟩;rw[HE.out];go_wp2;go_ret;exact ⟨rfl,hGr⟩
  ·have q1:(y !=0)=true:=(by simp[h0]);have hm:=Zoj (b:=y) hx;have hlt:=ZmO (a:=x) h0;have Hs:=hid (show Int.gcd y (x.tmod y)=G by rw[ZpA,Hg.out]);go_wp2;go_region;go_wp2;go_roundw;case rel=>exact ⟨hGr.drew,y,x.tmod y,rfl,rfl,hy,hm,Hs.out⟩
   case measure=>simp only[intOf];omega
theorem ZrA (h: ¬ 1<=y):isR (x,y)=false:=by unfold isR;rw[decide_eq_false (fun e=>h e.1)];rfl
theorem Zrp (h: ¬ y<=400000000):isR (x,y)=false:=by unfold isR;rw[decide_eq_false (fun e=>h e.2)];rfl
theorem ZrB (h:Zl x=false):isR (x,y)=false:=by unfold isR;simp only[h];simp
theorem Zr5 (h1:1<=y) (h2:y<=400000000) (h3:Zl x=true):isR (x,y)=decide (Int.gcd x y=1):=by unfold isR;rw[decide_eq_true ⟨h1,h2⟩];simp only[h3];simp
theorem Za7 (r:Rt) (w:World):Calls Tryz.prog 214 #[RV r] w fun e w'=>e= .returned (.bool (isR r))/\Grow w w':=by
 obtain ⟨x,y⟩:=r;have hG:=(Grow.refl w).alloc #[Yv Yi x,Yv Yi y] 240;have bM:=Blk.new w #[Yv Yi x,Yv Yi y] 240;obtain ⟨⟨m0,m1⟩, -⟩:=bM.two;have hlt:=bM.lt;go_enter Tryz.func214,Tryz.ntmps214;by_cases h1:1<=y
 ·by_cases h2:y<=400000000
  ·cases h3:Zl x with
   |false=>have Hr:=hid (ZrB (y:=y) h3);go_wp2_with (go_at_call 79;refine (ZQ x _).mono ?_;rintro e w' ⟨rfl,rfl⟩;rw[h3]);go_ret;exact ⟨Zt Hr.out.symm,hG⟩
   |true=>
    have hx:=ZI.1 h3;have Hr:=hid (Zr5 h1 h2 h3);cases h4:decide (Int.gcd x y=1) with
    |true=>
     have h5:((Int.gcd x y:Nat):Int)=1:=(by have:=of_decide_eq_true h4;omega);rw[h4] at Hr;clear h4;go_wp2_with (first
      |(go_at_call 79;refine (ZQ x _).mono ?_;rintro e w' ⟨rfl,rfl⟩;rw[h3])
      |(go_at_call 108;refine (ZjJ x y _ (by omega) (by omega)).mono ?_;rintro e w' ⟨rfl,hGg⟩;rw[h5]))
     go_ret;exact ⟨Zt Hr.out.symm,hG.trans hGg⟩
    |false=>
     have h5: ¬ ((Int.gcd x y:Nat):Int)=1:=(by have:=of_decide_eq_false h4;omega);rw[h4] at Hr;clear h4;obtain ⟨G,hGd⟩: ∃ G:Int,((Int.gcd x y:Nat):Int)=G:=⟨_,rfl⟩;rw[hGd] at h5;have HGd:=hid hGd;clear hGd;have h6:(G==1)=false:=(by rw[beq_eq_false_iff_ne];exact h5);go_wp2_with (first
      |(go_at_call 79;refine (ZQ x _).mono ?_;rintro e w' ⟨rfl,rfl⟩;rw[h3])
      |(go_at_call 108;refine (ZjJ x y _ (by omega) (by omega)).mono ?_;rintro e w' ⟨rfl,hGg⟩;rw[HGd.out]))
     go_ret;exact ⟨Zt Hr.out.symm,hG.trans hGg⟩
  ·have Hr:=hid (Zrp (x:=x) h2);go_wp2;go_ret;exact ⟨Zt Hr.out.symm,hG⟩
 ·have Hr:=hid (ZrA (x:=x) h1);go_wp2;go_ret;exact ⟨Zt Hr.out.symm,hG⟩
theorem Zco (n G:Int): -(n.natAbs:Int)<=n.tdiv G/\n.tdiv G<=n.natAbs:=by
 have h1:(n.tdiv G).natAbs=n.natAbs/G.natAbs:=Int.natAbs_tdiv n G;have h2:=Nat.div_le_self n.natAbs G.natAbs;omega
theorem ZX (h: -9223372036854775808<=x/\x<=9223372036854775807):wrap64 x=x:=by unfold wrap64;omega
theorem Zg0 (n d:Int) (w:World) (hn: -1000000000000000000<=n/\n<=1000000000000000000) (hd: -1000000000000000000<=d/\d<=1000000000000000000) (h0:d≠0):Calls Tryz.prog 224 #[Yv Yi n,Yv Yi d] w fun e w'=>e= .returned (RV (Zel n d))/\Grow w w':=by
 have hG1:=(Grow.refl w).alloc #[Yv Yi 0,Yv Yi 0] 240;have bZ:=Blk.new w #[Yv Yi 0,Yv Yi 0] 240;have hg:0<Int.gcd n d:=Nat.pos_of_ne_zero fun e=>h0 (Int.gcd_eq_zero_iff.1 e).2;have hgd:Int.gcd n d<=d.natAbs:=Nat.le_of_dvd (by omega) (Int.gcd_dvd_natAbs_right n d);obtain ⟨G,hGd⟩: ∃ G:Int,((Int.gcd n d:Nat):Int)=G:=⟨_,rfl⟩;have hs:sgD n d=if d<0 then -G else G:=by unfold sgD;rw[hGd]
 have Hs:=hid hs;have hG0:0<G/\G<=1000000000000000000:=by omega
 clear hs hg hgd;have HG:=hid hGd;clear hGd;go_enter Tryz.func224,Tryz.ntmps224;go_wp2_with (go_at_call 108;refine (ZjJ n d _ hn hd).mono ?_;rintro e w2 ⟨rfl,hGg⟩;rw[HG.out]);all_goals
  first
   |rw[if_pos ‹_›] at Hs
    have hX:wrap64 (-n.tdiv G)=n.tdiv (sgD n d):=(by rw[Hs.out,Int.tdiv_neg];exact ZX (by have:=Zco n G;omega));have hY:wrap64 (-d.tdiv G)=d.tdiv (sgD n d):=(by rw[Hs.out,Int.tdiv_neg];exact ZX (by have:=Zco d G;omega));have hq1: ¬ (-G)=0:=by omega
   |rw[if_neg (Int.not_lt.2 ‹_›)] at Hs
    have hX:wrap64 (n.tdiv G)=n.tdiv (sgD n d):=(by rw[Hs.out];exact ZX (by have:=Zco n G;omega));have hY:wrap64 (d.tdiv G)=d.tdiv (sgD n d):=(by rw[Hs.out];exact ZX (by have:=Zco d G;omega));have hq1: ¬ G=0:=by omega
  have hG2:Grow w w2:=hG1.trans hGg;have bZ2:=bZ.grow hGg;obtain ⟨X,hXd⟩: ∃ X,n.tdiv (sgD n d)=X:=⟨_,rfl⟩;obtain ⟨Y,hYd⟩: ∃ Y,d.tdiv (sgD n d)=Y:=⟨_,rfl⟩;rw[hXd] at hX;rw[hYd] at hY;have Hl:=hid (show Zel n d=if isR (X,Y)=true then (X,Y) else rt0 by unfold Zel;rw[hXd,hYd]);clear hXd hYd Hs HG hn hd h0;go_wp2;go_region;first |rw[hX,hY]|skip
  clear hX hY;obtain ⟨w3,hw3⟩: ∃ x,x=(w2.alloc (.cells #[Yv Yi X,Yv Yi Y] 240)).drew:=⟨_,rfl⟩;have hG3:Grow w2 w3:=by rw[hw3];exact ((Grow.refl _).alloc _ _).drew
  have bR:Blk w3 w2.heap.size #[Yv Yi X,Yv Yi Y] 240:=by rw[hw3];exact (Blk.new w2 _ _).grow (Grow.refl _).drew
  have bZ3:=bZ2.grow hG3;rw[←hw3];clear hw3;obtain ⟨⟨m0,m1⟩, -⟩:=bR.two;have hlt:=bR.lt;go_wp2_with fail;refine (Za7 (X,Y) _).mono ?_;rintro e w4 ⟨rfl,hG4⟩;have bR4:=bR.grow hG4;have bZ4:=bZ3.grow hG4;obtain ⟨⟨n0,n1⟩, -⟩:=bR4.two;obtain ⟨⟨z0,z1⟩,f0,f1⟩:=bZ4.two;have hlt4:=bR4.lt;have hltZ:=bZ4.lt;clear m0 m1;cases hr:isR (X,Y) with
  |true=>rw[hr,if_pos rfl] at Hl;have hK:=((hG2.trans (hG3.trans hG4)).setCell (p:=⟨w.heap.size,0,none⟩) (Nat.le_refl _) (Yv Yi X)).setCell (p:=⟨w.heap.size,1,none⟩) (Nat.le_refl _) (Yv Yi Y);clear hr;go_wp2;exact ZF Zaj rfl rfl rfl ((bZ4.set 0 _).set 1 _) ⟨by rw[Hl.out];rfl,hK⟩
  |false=>rw[hr,if_neg (by simp)] at Hl;have hK:=((hG2.trans (hG3.trans hG4)).setCell (p:=⟨w.heap.size,0,none⟩) (Nat.le_refl _) (Yv Yi 0)).setCell (p:=⟨w.heap.size,1,none⟩) (Nat.le_refl _) (Yv Yi 0);clear hr;go_wp2;exact ZF Zaj rfl rfl rfl ((bZ4.set 0 _).set 1 _) ⟨by rw[Hl.out];rfl,hK⟩
def Zjv (f:Nat) (g:Rt->Rt->Rt):Prop:= ∀ (a b:Rt) (w:World),Calls Tryz.prog f #[RV a,RV b] w fun e w'=>e= .returned (RV (g a b))/\Grow w w'
def Zp0 (g:Rt->Rt->Rt):Prop:= ∀ (a b:Rt),isR a=false\/isR b=false->g a b=rt0
theorem ZnH:Zp0 Zdu/\Zp0 ZY/\Zp0 Zdo:=by
 refine ⟨fun a b h=> ?_,fun a b h=> ?_,fun a b h=> ?_⟩;all_goals
  first |unfold Zdu|unfold ZY|unfold Zdo
  rcases h with h|h<;>rw[h]<;>simp
theorem ZlQ:Zjv 222 Zdu/\Zjv 213 ZY/\Zjv 215 Zdo:=by
 refine ⟨?_, ?_, ?_⟩
 case' refine_1=>have hno:=ZnH.1
 case' refine_2=>have hno:=ZnH.2.1
 case' refine_3=>have hno:=ZnH.2.2
 all_goals
  intro a b w;obtain ⟨x,y⟩:=a;obtain ⟨u,v⟩:=b;have hG1:=(((Grow.refl w).alloc #[Yv Yi x,Yv Yi y] 240).alloc #[Yv Yi u,Yv Yi v] 240).alloc #[Yv Yi 0,Yv Yi 0] 240;obtain ⟨w1,hw1, -,bA,bB,bZ, -⟩:=al3 w #[Yv Yi x,Yv Yi y] 240 #[Yv Yi u,Yv Yi v] 240 #[Yv Yi 0,Yv Yi 0] 240;rw[←hw1] at hG1;obtain ⟨⟨a0,a1⟩, -⟩:=bA.two;obtain ⟨⟨b0,b1⟩, -⟩:=bB.two;have hlA:=bA.lt;have hlB:=bB.lt;rw[hw1] at a0 a1 b0 b1 hlA hlB;first |(go_enter Tryz.func222,Tryz.ntmps222)|(go_enter Tryz.func213,Tryz.ntmps213)|(go_enter Tryz.func215,Tryz.ntmps215)
  go_wp2_with fail;rw[←hw1];clear hw1;refine (Za7 (x,y) _).mono ?_;rintro e w2 ⟨rfl,hG2⟩;replace bA:=bA.grow hG2;replace bB:=bB.grow hG2;replace bZ:=bZ.grow hG2;replace hG1:=hG1.trans hG2;clear a0 a1 b0 b1 hlA hlB;obtain ⟨⟨a0,a1⟩, -⟩:=bA.two;obtain ⟨⟨b0,b1⟩, -⟩:=bB.two;have hlA:=bA.lt;have hlB:=bB.lt;cases ha:isR (x,y);case false=>have Hr:=hid (hno _ (u,v) (.inl ha));clear ha;obtain ⟨⟨z0,z1⟩,f0,f1⟩:=bZ.two;have hltZ:=bZ.lt;have hK:=(hG1.setCell (p:=⟨w.heap.size+1+1,0,none⟩) (by show _<=w.heap.size+1+1;omega) (Yv Yi 0)).setCell (p:=⟨w.heap.size+1+1,1,none⟩) (by show _<=w.heap.size+1+1;omega) (Yv Yi 0);go_wp2;exact ZF Zaj rfl rfl rfl ((bZ.set 0 _).set 1 _) ⟨by rw[Hr.out];rfl,hK⟩
  case' true=>
   have hxa:=Zdi.1 ha;have Ha:=hid ha;clear ha;go_wp2_with fail;refine (Za7 (u,v) _).mono ?_;rintro e w3 ⟨rfl,hG3⟩;replace bA:=bA.grow hG3;replace bB:=bB.grow hG3;replace bZ:=bZ.grow hG3;replace hG1:=hG1.trans hG3;clear a0 a1 b0 b1 hlA hlB;obtain ⟨⟨a0,a1⟩, -⟩:=bA.two;obtain ⟨⟨b0,b1⟩, -⟩:=bB.two;have hlA:=bA.lt;have hlB:=bB.lt;cases hb:isR (u,v);case false=>have Hr:=hid (hno (x,y) _ (.inr hb));clear hb;obtain ⟨⟨z0,z1⟩,f0,f1⟩:=bZ.two;have hltZ:=bZ.lt;have hK:=(hG1.setCell (p:=⟨w.heap.size+1+1,0,none⟩) (by show _<=w.heap.size+1+1;omega) (Yv Yi 0)).setCell (p:=⟨w.heap.size+1+1,1,none⟩) (by show _<=w.heap.size+1+1;omega) (Yv Yi 0);go_wp2;exact ZF Zaj rfl rfl rfl ((bZ.set 0 _).set 1 _) ⟨by rw[Hr.out];rfl,hK⟩
   case' true=>have hxb:=Zdi.1 hb;have Hb:=hid hb;clear hb;obtain ⟨⟨p1,p2⟩,⟨p3,p4⟩, -⟩:=hxa;obtain ⟨⟨q1,q2⟩,⟨q3,q4⟩, -⟩:=hxb;simp only at p1 p2 p3 p4 q1 q2 q3 q4
 focus
  by_cases hu:u=0
  ·have Hr:=hid (show Zdo (x,y) (u,v)=rt0 by unfold Zdo;simp only[hu];simp);subst hu;obtain ⟨⟨z0,z1⟩,f0,f1⟩:=bZ.two;have hltZ:=bZ.lt;have hK:=(hG1.setCell (p:=⟨w.heap.size+1+1,0,none⟩) (by show _<=w.heap.size+1+1;omega) (Yv Yi 0)).setCell (p:=⟨w.heap.size+1+1,1,none⟩) (by show _<=w.heap.size+1+1;omega) (Yv Yi 0);go_wp2;exact ZF Zaj rfl rfl rfl ((bZ.set 0 _).set 1 _) ⟨by rw[Hr.out];rfl,hK⟩
  ·have hu':(u==0)=false:=(by rw[beq_eq_false_iff_ne];exact hu);have e1:=Zbl (p:=400000000) (q:=400000000) ⟨p3,p4⟩ (b:=v) ⟨by omega,q2⟩;have e3:=Zbl (p:=400000000) (q:=400000000) (a:=y) ⟨by omega,p2⟩ (b:=u) ⟨q3,q4⟩;have e4: ¬ y*u=0:=fun e=>(by rcases Int.mul_eq_zero.1 e with h|h<;>omega);obtain ⟨N,hN⟩: ∃ N,x*v=N:=⟨_,rfl⟩;obtain ⟨D,hD⟩: ∃ D,y*u=D:=⟨_,rfl⟩;have Hr:=hid (show Zdo (x,y) (u,v)=Zel N D by unfold Zdo;rw[Ha.out,Hb.out, ←hN, ←hD];simp[hu]);rw[hN] at e1;rw[hD] at e3 e4;have w1':wrap64 (x*v)=N:=(by rw[hN];exact ZX (by omega));have w3':wrap64 (y*u)=D:=(by rw[hD];exact ZX (by omega));clear hD hN;go_wp2_with fail;refine (Zg0 N D _ (by omega) (by omega) (by omega)).mono ?_;rintro e w4 ⟨rfl,hG4⟩;clear p1 p2 p3 p4 q1 q2 q3 q4;replace bA:=bA.grow hG4;replace bB:=bB.grow hG4;replace bZ:=bZ.grow hG4;replace hG1:=hG1.trans hG4;clear a0 a1 b0 b1 hlA hlB;obtain ⟨⟨a0,a1⟩, -⟩:=bA.two;obtain ⟨⟨b0,b1⟩, -⟩:=bB.two;have hlA:=bA.lt;have hlB:=bB.lt;obtain ⟨⟨z0,z1⟩,f0,f1⟩:=bZ.two;have hltZ:=bZ.lt;generalize Zel N D=L at *;obtain ⟨l1,l2⟩:=L;have hK:=(hG1.setCell (p:=⟨w.heap.size+1+1,0,none⟩) (by show _<=w.heap.size+1+1;omega) (Yv Yi l1)).setCell (p:=⟨w.heap.size+1+1,1,none⟩) (by show _<=w.heap.size+1+1;omega) (Yv Yi l2);go_wp2;exact ZF Zaj rfl rfl rfl ((bZ.set 0 _).set 1 _) ⟨by rw[Hr.out];rfl,hK⟩
 focus
  have e1:=Zbl (p:=400000000) (q:=400000000) ⟨p3,p4⟩ (b:=u) ⟨q3,q4⟩;have e3:=Zbl (p:=400000000) (q:=400000000) (a:=y) ⟨by omega,p2⟩ (b:=v) ⟨by omega,q2⟩;have e4:0<y*v:=Int.mul_pos (by omega) (by omega);obtain ⟨N,hN⟩: ∃ N,x*u=N:=⟨_,rfl⟩;obtain ⟨D,hD⟩: ∃ D,y*v=D:=⟨_,rfl⟩;have Hr:=hid (show ZY (x,y) (u,v)=Zel N D by unfold ZY;rw[Ha.out,Hb.out, ←hN, ←hD];rfl);rw[hN] at e1;rw[hD] at e3 e4;have w1':wrap64 (x*u)=N:=by rw[hN];exact ZX (by omega)
  have w3':wrap64 (y*v)=D:=by rw[hD];exact ZX (by omega)
  clear hD hN;go_wp2_with fail;refine (Zg0 N D _ (by omega) (by omega) (by omega)).mono ?_;rintro e w4 ⟨rfl,hG4⟩;clear p1 p2 p3 p4 q1 q2 q3 q4;replace bA:=bA.grow hG4;replace bB:=bB.grow hG4;replace bZ:=bZ.grow hG4;replace hG1:=hG1.trans hG4;clear a0 a1 b0 b1 hlA hlB;obtain ⟨⟨a0,a1⟩, -⟩:=bA.two;obtain ⟨⟨b0,b1⟩, -⟩:=bB.two;have hlA:=bA.lt;have hlB:=bB.lt;obtain ⟨⟨z0,z1⟩,f0,f1⟩:=bZ.two;have hltZ:=bZ.lt;generalize Zel N D=L at *;obtain ⟨l1,l2⟩:=L;have hK:=(hG1.setCell (p:=⟨w.heap.size+1+1,0,none⟩) (by show _<=w.heap.size+1+1;omega) (Yv Yi l1)).setCell (p:=⟨w.heap.size+1+1,1,none⟩) (by show _<=w.heap.size+1+1;omega) (Yv Yi l2);go_wp2;exact ZF Zaj rfl rfl rfl ((bZ.set 0 _).set 1 _) ⟨by rw[Hr.out];rfl,hK⟩
 focus
  have e1:=Zbl (p:=400000000) (q:=400000000) ⟨p3,p4⟩ (b:=v) ⟨by omega,q2⟩;have e2:=Zbl (p:=400000000) (q:=400000000) ⟨q3,q4⟩ (b:=y) ⟨by omega,p2⟩;have e3:=Zbl (p:=400000000) (q:=400000000) (a:=y) ⟨by omega,p2⟩ (b:=v) ⟨by omega,q2⟩;have e4:0<y*v:=Int.mul_pos (by omega) (by omega);obtain ⟨A,hA⟩: ∃ A,x*v=A:=⟨_,rfl⟩;obtain ⟨B,hB⟩: ∃ B,u*y=B:=⟨_,rfl⟩;obtain ⟨D,hD⟩: ∃ D,y*v=D:=⟨_,rfl⟩;obtain ⟨N,hN⟩: ∃ N,A+B=N:=⟨_,rfl⟩;have Hr:=hid (show Zdu (x,y) (u,v)=Zel N D by unfold Zdu;rw[Ha.out,Hb.out, ←hN, ←hA, ←hB, ←hD];rfl);rw[hA] at e1;rw[hB] at e2;rw[hD] at e3 e4;have w1':wrap64 (x*v)=A:=by rw[hA];exact ZX (by omega)
  have w2':wrap64 (u*y)=B:=by rw[hB];exact ZX (by omega)
  have w3':wrap64 (y*v)=D:=by rw[hD];exact ZX (by omega)
  have w4':wrap64 (A+B)=N:=by rw[hN];exact ZX (by omega)
  have hNb: -1000000000000000000<=N/\N<=1000000000000000000:=by omega
  clear e1 e2 hA hB hD hN;go_wp2_with fail;refine (Zg0 N D _ (by omega) (by omega) (by omega)).mono ?_;rintro e w4 ⟨rfl,hG4⟩;clear p1 p2 p3 p4 q1 q2 q3 q4;replace bA:=bA.grow hG4;replace bB:=bB.grow hG4;replace bZ:=bZ.grow hG4;replace hG1:=hG1.trans hG4;clear a0 a1 b0 b1 hlA hlB;obtain ⟨⟨a0,a1⟩, -⟩:=bA.two;obtain ⟨⟨b0,b1⟩, -⟩:=bB.two;have hlA:=bA.lt;have hlB:=bB.lt;obtain ⟨⟨z0,z1⟩,f0,f1⟩:=bZ.two;have hltZ:=bZ.lt;generalize Zel N D=L at *;obtain ⟨l1,l2⟩:=L;have hK:=(hG1.setCell (p:=⟨w.heap.size+1+1,0,none⟩) (by show _<=w.heap.size+1+1;omega) (Yv Yi l1)).setCell (p:=⟨w.heap.size+1+1,1,none⟩) (by show _<=w.heap.size+1+1;omega) (Yv Yi l2);go_wp2;exact ZF Zaj rfl rfl rfl ((bZ.set 0 _).set 1 _) ⟨by rw[Hr.out];rfl,hK⟩
theorem Zsi (a:Rt) (w:World):Calls Tryz.prog 223 #[RV a] w fun e w'=>e= .returned (RV (ZcZ a))/\Grow w w':=by
 iterate 1
  obtain ⟨x,y⟩:=a;have hG1:=((Grow.refl w).alloc #[Yv Yi x,Yv Yi y] 240).alloc #[Yv Yi 0,Yv Yi 0] 240;obtain ⟨w1,hw1, -,bA,bZ, -⟩:=al2 w #[Yv Yi x,Yv Yi y] 240 #[Yv Yi 0,Yv Yi 0] 240;rw[←hw1] at hG1;obtain ⟨⟨a0,a1⟩, -⟩:=bA.two;have hlA:=bA.lt;rw[hw1] at a0 a1 hlA;go_enter Tryz.func223,Tryz.ntmps223;go_wp2_with fail;rw[←hw1];clear hw1 a0 a1 hlA;refine (Za7 (x,y) _).mono ?_;rintro e w2 ⟨rfl,hG2⟩;replace bA:=bA.grow hG2;replace bZ:=bZ.grow hG2;replace hG1:=hG1.trans hG2;obtain ⟨⟨a0,a1⟩, -⟩:=bA.two;obtain ⟨⟨z0,z1⟩,f0,f1⟩:=bZ.two;have hlA:=bA.lt;have hltZ:=bZ.lt;cases ha:isR (x,y) with
  |false=>have Hr:=hid (show ZcZ (x,y)=rt0 by unfold ZcZ;rw[ha];rfl);clear ha;have hK:=(hG1.setCell (p:=⟨w.heap.size+1,0,none⟩) (by show _<=w.heap.size+1;omega) (Yv Yi 0)).setCell (p:=⟨w.heap.size+1,1,none⟩) (by show _<=w.heap.size+1;omega) (Yv Yi 0);go_wp2;exact ZF Zaj rfl rfl rfl ((bZ.set 0 _).set 1 _) ⟨by rw[Hr.out];rfl,hK⟩
  |true=>have hxa:=Zdi.1 ha;have Hr:=hid (show ZcZ (x,y)=(-x,y) by unfold ZcZ;rw[ha];rfl);clear ha;obtain ⟨⟨p1,p2⟩,⟨p3,p4⟩, -⟩:=hxa;simp only at p1 p2 p3 p4;have w1':wrap64 (-x)= -x:=ZX (by omega);have hK:=(hG1.setCell (p:=⟨w.heap.size+1,0,none⟩) (by show _<=w.heap.size+1;omega) (Yv Yi (-x))).setCell (p:=⟨w.heap.size+1,1,none⟩) (by show _<=w.heap.size+1;omega) (Yv Yi y);go_wp2;exact ZF Zaj rfl rfl rfl ((bZ.set 0 _).set 1 _) ⟨by rw[Hr.out];rfl,hK⟩
theorem ZpY:Zjv 222 Zdu:=ZlQ.1
theorem Zga:Zjv 213 ZY:=ZlQ.2.1
theorem Zqu:Zjv 215 Zdo:=ZlQ.2.2
theorem ZpL (a:Rt) (w:World):Calls Tryz.prog 223 #[RV a] w fun e w'=>e= .returned (RV (ZcZ a))/\Grow w w':=Zsi a w
theorem Zk1 (n:Int) (w:World):Calls Tryz.prog 211 #[Yv Yi n] w fun e w'=>e= .returned (RV (n,1))/\Grow w w':=by
 go_enter Tryz.func211,Tryz.ntmps211;go_wp2;exact ZF Zaj rfl rfl rfl (Blk.new _ _ _) ⟨rfl,(Grow.refl w).alloc _ _⟩
theorem ZmN (n d:Int) (w:World) (hn: -4000000000<=n/\n<=4000000000) (hd:0<d/\d<=4000000000):Calls Tryz.prog 225 #[Yv Yi n,Yv Yi d] w fun e w'=>e= .returned (Yv Yi (n/d))/\Grow w w':=by
 have h1:=Zco n d;have h3:=Int.emod_nonneg n (show d≠0 by omega);have h4:=Int.emod_lt_of_pos n hd.1;have h5:=Int.emod_add_mul_ediv n d;have hdd: ¬ d<0:=by omega
 have hd0: ¬ d=0:=by omega
 by_cases hneg:n<0
 ·by_cases hr:n.tmod d=0
  ·have he:n.tdiv d=n/d:=(by rw[Int.tdiv_eq_ediv_of_dvd (Int.dvd_of_tmod_eq_zero hr)]);have He:=hid he;have w1':wrap64 (n.tdiv d)=n.tdiv d:=ZX (by omega);clear he h3 h4 h5;go_enter Tryz.func225,Tryz.ntmps225;go_wp2;go_ret;exact ⟨ZU He.out,Grow.refl _⟩
  ·have he:n.tdiv d-1=n/d:=by
    have h6:=Int.tdiv_eq_ediv (a:=n) (b:=d);rw[if_neg (by
     rintro (h|h)
     ·omega
     ·exact hr (Int.tmod_eq_zero_of_dvd h))] at h6
    have h7:d.sign=1:=Int.sign_eq_one_of_pos hd.1;omega
   have He:=hid he;have w1':wrap64 (n.tdiv d)=n.tdiv d:=ZX (by omega);have w2':wrap64 (n.tdiv d-1)=n.tdiv d-1:=ZX (by omega);clear he h3 h4 h5;go_enter Tryz.func225,Tryz.ntmps225;go_wp2;go_ret;exact ⟨ZU He.out,Grow.refl _⟩
 ·have he:n.tdiv d=n/d:=Int.tdiv_eq_ediv_of_nonneg (by omega);have He:=hid he;have w1':wrap64 (n.tdiv d)=n.tdiv d:=ZX (by omega);clear he h3 h4 h5;go_enter Tryz.func225,Tryz.ntmps225;go_wp2;all_goals (go_ret;exact ⟨ZU He.out,Grow.refl _⟩)
theorem Zq8 (a:Rt) (w:World):Calls Tryz.prog 216 #[RV a] w fun e w'=>e= .returned (Yv Yi (ZbU a))/\Grow w w':=by
 obtain ⟨x,y⟩:=a;have hG1:=(Grow.refl w).alloc #[Yv Yi x,Yv Yi y] 240;have bA:=Blk.new w #[Yv Yi x,Yv Yi y] 240;obtain ⟨⟨a0,a1⟩, -⟩:=bA.two;have hlA:=bA.lt;go_enter Tryz.func216,Tryz.ntmps216;go_wp2_with fail;clear a0 a1 hlA;refine (Za7 (x,y) _).mono ?_;rintro e w2 ⟨rfl,hG2⟩;replace bA:=bA.grow hG2;replace hG1:=hG1.trans hG2;obtain ⟨⟨a0,a1⟩, -⟩:=bA.two;have hlA:=bA.lt;cases ha:isR (x,y) with
 |false=>have Hr:=hid (show ZbU (x,y)=0 by unfold ZbU;rw[ha];rfl);clear ha;go_wp2;go_ret;exact ⟨ZU Hr.out.symm,hG1⟩
 |true=>have hxa:=Zdi.1 ha;have Hr:=hid (show ZbU (x,y)=(2*x+y)/(2*y) by unfold ZbU;rw[ha];rfl);clear ha;obtain ⟨⟨p1,p2⟩,⟨p3,p4⟩, -⟩:=hxa;simp only at p1 p2 p3 p4;have w1':wrap64 (2*x)=2*x:=ZX (by omega);have w2':wrap64 (2*y)=2*y:=ZX (by omega);have w3':wrap64 (2*x+y)=2*x+y:=ZX (by omega);go_wp2_with fail;refine (ZmN (2*x+y) (2*y) _ (by omega) (by omega)).mono ?_;rintro e w3 ⟨rfl,hG3⟩;go_wp2;go_ret;exact ⟨ZU Hr.out.symm,hG1.trans hG3⟩
theorem Zq1 (a b:Rt) (w:World):Calls Tryz.prog 226 #[RV a,RV b] w fun e w'=>e= .returned (Yv Yi (ZaN a b))/\Grow w w':=by
 obtain ⟨x,y⟩:=a;obtain ⟨u,v⟩:=b;have hG1:=((Grow.refl w).alloc #[Yv Yi x,Yv Yi y] 240).alloc #[Yv Yi u,Yv Yi v] 240;obtain ⟨w1,hw1, -,bA,bB, -⟩:=al2 w #[Yv Yi x,Yv Yi y] 240 #[Yv Yi u,Yv Yi v] 240;rw[←hw1] at hG1;obtain ⟨⟨a0,a1⟩, -⟩:=bA.two;obtain ⟨⟨b0,b1⟩, -⟩:=bB.two;have hlA:=bA.lt;have hlB:=bB.lt;rw[hw1] at a0 a1 b0 b1 hlA hlB;go_enter Tryz.func226,Tryz.ntmps226;go_wp2_with fail;rw[←hw1];clear hw1 a0 a1 b0 b1 hlA hlB;refine (Za7 (x,y) _).mono ?_;rintro e w2 ⟨rfl,hG2⟩;replace bA:=bA.grow hG2;replace bB:=bB.grow hG2;replace hG1:=hG1.trans hG2;obtain ⟨⟨a0,a1⟩, -⟩:=bA.two;obtain ⟨⟨b0,b1⟩, -⟩:=bB.two;have hlA:=bA.lt;have hlB:=bB.lt;cases ha:isR (x,y) with
 |false=>have Hr:=hid (show ZaN (x,y) (u,v)=2 by unfold ZaN;rw[ha];rfl);clear ha;go_wp2;go_ret;exact ⟨ZU Hr.out.symm,hG1⟩
 |true=>
  have hxa:=Zdi.1 ha;have Ha:=hid ha;clear ha;go_wp2_with fail;refine (Za7 (u,v) _).mono ?_;rintro e w3 ⟨rfl,hG3⟩;replace bA:=bA.grow hG3;replace bB:=bB.grow hG3;replace hG1:=hG1.trans hG3;clear a0 a1 b0 b1 hlA hlB;obtain ⟨⟨a0,a1⟩, -⟩:=bA.two;obtain ⟨⟨b0,b1⟩, -⟩:=bB.two;have hlA:=bA.lt;have hlB:=bB.lt;cases hb:isR (u,v) with
  |false=>have Hr:=hid (show ZaN (x,y) (u,v)=2 by unfold ZaN;rw[Ha.out,hb];rfl);clear hb;go_wp2;go_ret;exact ⟨ZU Hr.out.symm,hG1⟩
  |true=>
   have hxb:=Zdi.1 hb;obtain ⟨⟨p1,p2⟩,⟨p3,p4⟩, -⟩:=hxa;obtain ⟨⟨q1,q2⟩,⟨q3,q4⟩, -⟩:=hxb;simp only at p1 p2 p3 p4 q1 q2 q3 q4;have e1:=Zbl (p:=400000000) (q:=400000000) ⟨p3,p4⟩ (b:=v) ⟨by omega,q2⟩;have e2:=Zbl (p:=400000000) (q:=400000000) ⟨q3,q4⟩ (b:=y) ⟨by omega,p2⟩;obtain ⟨A,hA⟩: ∃ A,x*v=A:=⟨_,rfl⟩;obtain ⟨B,hB⟩: ∃ B,u*y=B:=⟨_,rfl⟩;have Hr:=hid (show ZaN (x,y) (u,v)=if A<B then -1 else if B<A then 1 else 0 by unfold ZaN;rw[Ha.out,hb, ←hA, ←hB];rfl);rw[hA] at e1;rw[hB] at e2;have w1':wrap64 (x*v)=A:=(by rw[hA];exact ZX (by omega));have w2':wrap64 (u*y)=B:=(by rw[hB];exact ZX (by omega));clear hA hB e1 e2 hb;by_cases h1:A<B
   ·rw[if_pos h1] at Hr;go_wp2;go_ret;exact ⟨ZU Hr.out.symm,hG1⟩
   ·rw[if_neg h1] at Hr;by_cases h2:B<A
    ·rw[if_pos h2] at Hr;go_wp2;go_ret;exact ⟨ZU Hr.out.symm,hG1⟩
    ·rw[if_neg h2] at Hr;go_wp2;go_ret;exact ⟨ZU Hr.out.symm,hG1⟩
def ZcG (a b:Rt):Rt:=Zdu a (ZcZ b)
theorem Zl9 (a b:Rt) (w:World):Calls Tryz.prog 212 #[RV a,RV b] w fun e w'=>e= .returned (RV (ZcG a b))/\Grow w w':=by
 obtain ⟨x,y⟩:=a;obtain ⟨u,v⟩:=b;have hG1:=(((Grow.refl w).alloc #[Yv Yi x,Yv Yi y] 240).alloc #[Yv Yi u,Yv Yi v] 240).alloc #[Yv Yi 0,Yv Yi 0] 240;obtain ⟨w1,hw1, -,bA,bB,bZ, -⟩:=al3 w #[Yv Yi x,Yv Yi y] 240 #[Yv Yi u,Yv Yi v] 240 #[Yv Yi 0,Yv Yi 0] 240;rw[←hw1] at hG1;obtain ⟨⟨a0,a1⟩, -⟩:=bA.two;obtain ⟨⟨b0,b1⟩, -⟩:=bB.two;have hlA:=bA.lt;have hlB:=bB.lt;rw[hw1] at a0 a1 b0 b1 hlA hlB;have hs1:w1.heap.size=w.heap.size+1+1+1:=by rw[hw1];simp
 go_enter Tryz.func212,Tryz.ntmps212;go_wp2_with fail;rw[←hw1];have nA:w.heap.size≠w.heap.size+1+1:=by omega
 have nB:w.heap.size+1≠w.heap.size+1+1:=by omega
 clear a0 a1 b0 b1 hlA hlB hw1;refine Zg (S:=(Keep (fun q=>q≠w.heap.size+1+1) w1)) [([0,1],some 2),([],some 3),([],some 4)] Zm (by kernel_rfl) (fun _ _ _ _ _ h=>h) (Keep.refl _ _).drew ?_;show wpQuiet _ _ _ _ [_,_] _;repeat (first |(go_big_quiet_want;(first |refine ZA Zaj rfl rfl (fun w' hG=>bA.keep hG nA) ?_|refine ZA Zaj rfl rfl (fun w' hG=>bB.keep hG nB) ?_);go_big_quiet_on;simp only[putP])|go_big_quiet_step (exact fun _=>rfl))
 refine wpQuiet_nil ?_;refine Zf rfl (fun K hK=> ?_);go_wp2_with fail;refine (ZpL (u,v) _).mono ?_;rintro e w2 ⟨rfl,hG2⟩;have hGa:=(Grow.refl w1).drew.trans hG2;go_wp2_with fail;refine hK _ _ (hGa.any) ?_;clear hK K;refine wpQuiet_nil ?_;refine Zf rfl (fun K hK=> ?_);go_wp2_with fail;refine (ZpY (x,y) (ZcZ (u,v)) _).mono ?_;rintro e w3 ⟨rfl,hG3⟩;have hGb:=hGa.trans hG3;go_wp2_with fail;refine hK _ _ (hGb.any) ?_;clear hK K;refine wpQuiet_nil ?_;refine Zf rfl (fun K hK=> ?_);have hG:=hG1.trans hGb;replace bZ:=bZ.grow hGb;have Hr:=hid (show ZcG (x,y) (u,v)=Zdu (x,y) (ZcZ (u,v)) from rfl);generalize Zdu (x,y) (ZcZ (u,v))=L at *;obtain ⟨l1,l2⟩:=L;obtain ⟨⟨z0,z1⟩,f0,f1⟩:=bZ.two;have hltZ:=bZ.lt;have hKz:=(hG.setCell (p:=⟨w.heap.size+1+1,0,none⟩) (by show _<=w.heap.size+1+1;omega) (Yv Yi l1)).setCell (p:=⟨w.heap.size+1+1,1,none⟩) (by show _<=w.heap.size+1+1;omega) (Yv Yi l2);have hKs:Keep (fun q=>q≠w.heap.size+1+1) w3 ((w3.setCell ⟨w.heap.size+1+1,0,none⟩ (Yv Yi l1)).setCell ⟨w.heap.size+1+1,1,none⟩ (Yv Yi l2)):=((Keep.refl _ w3).setCell (fun _ e=>e rfl) _).setCell (fun _ e=>e rfl) _;go_wp2_with fail;refine hK _ _ ((hGb.any.trans hKs)) ?_;clear hK K;refine Zk ?_;go_wp2;exact ZF Zaj rfl rfl rfl ((bZ.set 0 _).set 1 _) ⟨by rw[Hr.out];rfl,hKz⟩

end Go.Proofs.YtjpcgofidijigaaGreatDoor
