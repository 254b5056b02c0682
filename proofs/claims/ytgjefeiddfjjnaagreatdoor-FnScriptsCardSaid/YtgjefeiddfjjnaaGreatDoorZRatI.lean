/- Fractions: the program's functions. -/
import Derived.Test.YtgjefeiddfjjnaaGreatDoorZHermF
set_option maxHeartbeats 8000000
set_option maxRecDepth 100000
namespace Go.Proofs.YtgjefeiddfjjnaaGreatDoor
open Go.RowKit
open Lib (hid)
open Go.Value renaming int->Yv
open Go.IntKind renaming i64->Yi
open Blk renaming new->JP
open Grow renaming refl->JH
open Int renaming gcd->JS,gcd_dvd_natAbs_right->PM,gcd_eq_zero_iff->PK,mul_pos->PN,natAbs_tmod->Nc,not_lt->Nz,tdiv_eq_ediv_of_nonneg->NQ,tdiv_neg->Ny
open Nat renaming le_of_dvd->PL,pos_of_ne_zero->Nw
open Go.Proofs.Tryz renaming prog->JG
open Go.Proofs.Tryz
variable {a b x y:Int} {g:Nat} {t:TypeId}
theorem Zdk:StT JG 207 2:=⟨_,underlying207,Ξ⟩
abbrev RV (r:Rt):Value:= .agg #[Yv Yi r.1,Yv Yi r.2]
theorem Blk.two {w:World} {x y:Value} (h:Blk w g #[x,y] t):
  (w.cell? ⟨g,0,none⟩=some x/\w.cell? ⟨g,1,none⟩=some y)/\w.frozen? ⟨g,0,none⟩=false/\w.frozen? ⟨g,1,none⟩=false:=
 ⟨⟨h.cell 0,h.cell 1⟩,h.free 0,h.free 1⟩
theorem ZjG {P:Program} {C:World->Prop} {o:Oper} {a:Act} {K:Act->Prop} {ty:TypeId} {x:Operand} {u v:Value} (hty:StT P ty 2) (ho:o.op= .load ty x) (hx:a.eval x= .pointer (some ⟨g,0,none⟩))
  (hv: ∀ w',C w'->Blk w' g #[u,v] t) (hk:K (a.put o.dst (.agg #[u,v]))):o.quiet P a C K:=Zaw (cs:= #[u,v]) hty ho hx hv hk
theorem Ziq:Int.gcd b (a.tmod b)=JS a b:=by
 exact Jl
theorem Zkb (a:Int):JS a 0=a.natAbs:=by simp[JS]
theorem ZgV (hb:b≠0):(a.tmod b).natAbs<b.natAbs:=by
 rw[Nc];exact Nat.mod_lt _ I
theorem ZlR (ha: -1000000000000000000<=a/\a<=1000000000000000000): -1000000000000000000<=a.tmod b/\a.tmod b<=1000000000000000000:=by
 exact J8
theorem Zll (a b:Int) (w:World) (ha: -1000000000000000000<=a/\a<=1000000000000000000) (hb: -1000000000000000000<=b/\b<=1000000000000000000):Calls JG 162 #[Yv Yi a,Yv Yi b] w fun e w'=>e= .returned (Yv Yi ((JS a b:Nat):Int))/\Grow w w':=by
 obtain ⟨G,c⟩:=eX (JS a b);have h:=hid c.symm;go_enter func162,ntmps162;go_wp2;go_loopw [0,1] (fun i d wr=>Grow w wr/\ ∃ x y:Int,i=Yv Yi x/\d=Yv Yi y/\(-1000000000000000000<=x/\x<=1000000000000000000)/\(-1000000000000000000<=y/\y<=1000000000000000000)/\JS x y=G) (fun _ d _=>(intOf d).natAbs);case atStart=>exact ⟨JH _,a,b,rfl,rfl,ha,hb,c.symm⟩
 case round=>
  clear ha hb c;obtain ⟨hGr,x,y,rfl,rfl,j,hy,f⟩:=hrel;have g:=hid f;clear f;by_cases h0:y=0
  ·have k:(y !=0)=false:=Av;have HE:=hid (show (x.natAbs:Int)=((JS a b:Nat):Int) by rw[h.out, ←g.out,h0,Zkb]);go_wp2_with fail;refine (Zd9 x _ I).mono ?_;exact I8
  ·have k:(y !=0)=true:=Av;have hm:=ZlR (b:=y) j;have l:=ZgV (a:=x) h0;have Hs:=hid (show JS y (x.tmod y)=G by rw[Ziq,g.out]);go_wp2;exact G7
theorem ZpB (h: ¬ 1<=y):isR (x,y)=false:=by unfold isR;rw[decide_eq_false (fun e=>h e.1)];rfl
theorem ZpP (h: ¬ y<=400000000):isR (x,y)=false:=by unfold isR;rw[decide_eq_false (fun e=>h e.2)];rfl
theorem ZpR (h:Zi x=false):isR (x,y)=false:=by unfold isR;simp only[h];simp
theorem Zpu (h1:1<=y) (h2:y<=400000000) (h3:Zi x=true):isR (x,y)=decide (JS x y=1):=by unfold isR;rw[decide_eq_true ⟨h1,h2⟩];simp only[h3];simp
theorem ZbJ (r:Rt) (w:World):Calls JG 314 #[RV r] w fun e w'=>e= .returned (.bool (isR r))/\Grow w w':=by
 obtain ⟨x,y⟩:=r;have hG:=(JH w).alloc #[Yv Yi x,Yv Yi y] 207;have g:=JP w #[Yv Yi x,Yv Yi y] 207;obtain ⟨⟨k,l⟩, -⟩:=g.two;have j:=g.lt;go_enter func314,ntmps314;by_cases h:1<=y
 ·by_cases i:y<=400000000
  ·cases b:Zi x with
   |false=>have Hr:=hid (ZpR (y:=y) b);go_wp2_with (go_at_call 111;refine (Z0 x _).mono ?_;rintro e w' ⟨rfl,rfl⟩;rw[b]);exact GL
   |true=>
    have m:=ZB.1 b;have Hr:=hid (Zpu h i b);cases c:decide (JS x y=1) with
    |true=>
     have d:((JS x y:Nat):Int)=1:=(by have:=of_decide_eq_true c;omega);rw[c] at Hr;clear c;go_wp2_with (first
      |(go_at_call 111;refine (Z0 x _).mono ?_;rintro e w' ⟨rfl,rfl⟩;rw[b])
      |(go_at_call 162;refine (Zll x y _ I I).mono ?_;rintro e w' ⟨rfl,hGg⟩;rw[d]))
     go_ret;exact JD
    |false=>
     have d: ¬ ((JS x y:Nat):Int)=1:=(by have:=of_decide_eq_false c;omega);rw[c] at Hr;clear c;obtain ⟨G,a⟩: ∃ G:Int,((JS x y:Nat):Int)=G:=⟨_,rfl⟩;rw[a] at d;have f:=hid a;clear a;have n:(G==1)=false:=(by rw[beq_eq_false_iff_ne];exact d);go_wp2_with (first
      |(go_at_call 111;refine (Z0 x _).mono ?_;rintro e w' ⟨rfl,rfl⟩;rw[b])
      |(go_at_call 162;refine (Zll x y _ I I).mono ?_;rintro e w' ⟨rfl,hGg⟩;rw[f.out]))
     go_ret;exact JD
  ·have Hr:=hid (ZpP (x:=x) i);go_wp2;exact GL
 ·have Hr:=hid (ZpB (x:=x) h);go_wp2;exact GL
theorem Zbw (n G:Int): -(n.natAbs:Int)<=n.tdiv G/\n.tdiv G<=n.natAbs:=by
 have a:(n.tdiv G).natAbs=n.natAbs/G.natAbs:=Int.natAbs_tdiv n G;have b:=Nat.div_le_self n.natAbs G.natAbs;omega
theorem ZK (h: -9223372036854775808<=x/\x<=9223372036854775807):wrap64 x=x:=θ
theorem ZiA (n d:Int) (w:World) (hn: -1000000000000000000<=n/\n<=1000000000000000000) (hd: -1000000000000000000<=d/\d<=1000000000000000000) (h0:d≠0):Calls JG 322 #[Yv Yi n,Yv Yi d] w fun e w'=>e= .returned (RV (Zef n d))/\Grow w w':=by
 have l:=(JH w).alloc #[Yv Yi 0,Yv Yi 0] 207;have A:=JP w #[Yv Yi 0,Yv Yi 0] 207;have B:0<JS n d:=Nw fun e=>h0 (PK.1 e).2;have m:JS n d<=d.natAbs:=PL I (PM n d);obtain ⟨G,b⟩: ∃ G:Int,((JS n d:Nat):Int)=G:=⟨_,rfl⟩;have t:sgD n d=if d<0 then -G else G:=by unfold sgD;rw[b]
 have Hs:=hid t;have C:0<G/\G<=1000000000000000000:=I
 clear t B m;have v:=hid b;clear b;go_enter func322,ntmps322;go_wp2_with (go_at_call 162;refine (Zll n d _ hn hd).mono ?_;rintro e g ⟨rfl,h⟩;rw[v.out]);all_goals
  first
   |rw[if_pos ‹_›] at Hs
    have j:wrap64 (-n.tdiv G)=n.tdiv (sgD n d):=(by rw[Hs.out,Ny];exact ZK (by have:=Zbw n G;omega));have k:wrap64 (-d.tdiv G)=d.tdiv (sgD n d):=(by rw[Hs.out,Ny];exact ZK (by have:=Zbw d G;omega));have o: ¬ (-G)=0:=I
   |rw[if_neg (Nz.2 ‹_›)] at Hs
    have j:wrap64 (n.tdiv G)=n.tdiv (sgD n d):=(by rw[Hs.out];exact ZK (by have:=Zbw n G;omega));have k:wrap64 (d.tdiv G)=d.tdiv (sgD n d):=(by rw[Hs.out];exact ZK (by have:=Zbw d G;omega));have o: ¬ G=0:=I
  have hG2:Grow w g:=l.trans h;have q:=A.grow h;obtain ⟨X,c⟩: ∃ X,n.tdiv (sgD n d)=X:=⟨_,rfl⟩;obtain ⟨Y,f⟩: ∃ Y,d.tdiv (sgD n d)=Y:=⟨_,rfl⟩;rw[c] at j;rw[f] at k;have Hl:=hid (show Zef n d=if isR (X,Y)=true then (X,Y) else rt0 by unfold Zef;rw[c,f]);clear c f Hs v hn hd h0;go_wp2;go_region;first |rw[j,k]|skip
  clear j k;obtain ⟨x,a⟩:=eX ((g.alloc (.cells #[Yv Yi X,Yv Yi Y] 207)).drew);have hG3:Grow g x:=by rw[a];exact ((JH _).alloc _ _).drew
  have r:Blk x g.heap.size #[Yv Yi X,Yv Yi Y] 207:=by rw[a];exact (JP g _ _).grow (JH _).drew
  have s:=q.grow hG3;rw[←a];clear a;obtain ⟨⟨D,E⟩, -⟩:=r.two;have F:=r.lt;go_wp2_with fail;refine (ZbJ (X,Y) _).mono ?_;rintro e H ⟨rfl,hG4⟩;have i:=r.grow hG4;have bZ4:=s.grow hG4;obtain ⟨⟨J,L⟩, -⟩:=i.two;obtain ⟨⟨M,N⟩,O,P⟩:=bZ4.two;have y:=i.lt;have z:=bZ4.lt;clear D E;cases hr:isR (X,Y) with
  |true=>exact GP
  |false=>exact GQ
theorem Zsf (ha: -400000000<=a/\a<=400000000): -400000000<=a.tmod b/\a.tmod b<=400000000:=by
 have h:(a.tmod b).natAbs<=a.natAbs:=by rw[Nc];exact Nat.mod_le _ _
 omega
theorem ZvH (a b:Int) (w:World) (ha: -400000000<=a/\a<=400000000) (hb: -400000000<=b/\b<=400000000):Calls JG 263 #[Yv Yi a,Yv Yi b] w fun e w'=>e= .returned (Yv Yi ((JS a b:Nat):Int))/\Grow w w':=by
 obtain ⟨G,c⟩:=eX (JS a b);have h:=hid (show ((JS a b:Nat):Int)=(G:Int) by rw[c]);have i:=hid (ZB.2 ha);have j:=hid (ZB.2 hb);go_enter func263,ntmps263;go_wp2_with fail;refine (Zax _ _).mono ?_;rintro e _ ⟨rfl,rfl⟩;rw[i.out];go_wp2_with fail;refine (Zax _ _).mono ?_;rintro e _ ⟨rfl,rfl⟩;rw[j.out];go_wp2;go_loopw [0,1] (fun k d wr=>Grow w wr/\ ∃ x y:Int,k=Yv Yi x/\d=Yv Yi y/\(-400000000<=x/\x<=400000000)/\(-400000000<=y/\y<=400000000)/\JS x y=G) (fun _ d _=>(intOf d).natAbs);case atStart=>exact ⟨JH _,a,b,rfl,rfl,ha,hb,c.symm⟩
 case round=>
  clear ha hb c;obtain ⟨hGr,x,y,rfl,rfl,l,hy,f⟩:=hrel;have g:=hid f;clear f;by_cases h0:y=0
  ·have m:(y !=0)=false:=Av;have HE:=hid (show (x.natAbs:Int)=((JS a b:Nat):Int) by rw[h.out, ←g.out,h0,Zkb]);go_wp2_with fail;refine (Zeu x _ I).mono ?_;exact I8
  ·have m:(y !=0)=true:=Av;have hm:=Zsf (b:=y) l;have n:=ZgV (a:=x) h0;have Hs:=hid (show JS y (x.tmod y)=G by rw[Ziq,g.out]);go_wp2;exact G7
theorem Za6 (r:Rt) (w:World):Calls JG 208 #[RV r] w fun e w'=>e= .returned (.bool (isR r))/\Grow w w':=by
 obtain ⟨x,y⟩:=r;have hG:=(JH w).alloc #[Yv Yi x,Yv Yi y] 207;have g:=JP w #[Yv Yi x,Yv Yi y] 207;obtain ⟨⟨n,o⟩, -⟩:=g.two;have k:=g.lt;go_enter func208,ntmps208;cases b:inB y 1 400000000 with
 |false=>
  have Hr:=hid (show isR (x,y)=false by
   by_cases h:1<=y
   ·by_cases i:y<=400000000
    ·exfalso;unfold inB at b;simp[h,i] at b
    ·exact ZpP i
   ·exact ZpB h)
  go_wp2_with (go_at_call 49;refine (ZaU y 1 400000000 _).mono ?_;rintro e w' ⟨rfl,rfl⟩;rw[b]);exact GL
 |true=>
  have a:1<=y/\y<=400000000:=by unfold inB at b;simpa using b
  cases d:Zi x with
  |false=>
   have Hr:=hid (ZpR (y:=y) d);clear a;go_wp2_with (first
    |(go_at_call 49;refine (ZaU y 1 400000000 _).mono ?_;rintro e w' ⟨rfl,rfl⟩;rw[b])
    |(go_at_call 137;refine (Zax x _).mono ?_;rintro e w' ⟨rfl,rfl⟩;rw[d]))
   go_ret;exact ⟨Zm Hr.out.symm,hG⟩
  |true=>
   have l:=ZB.1 d;have m: -400000000<=y/\y<=400000000:=I;have Hr:=hid (Zpu a.1 a.2 d);obtain ⟨G,c⟩: ∃ G:Int,((JS x y:Nat):Int)=G:=⟨_,rfl⟩;have j:decide (JS x y=1)=(G==1):=(by rw[←c];by_cases h:JS x y=1<;>simp[h]<;>omega);rw[j] at Hr;have f:=hid c;clear c j a;go_wp2_with (first
    |(go_at_call 49;refine (ZaU y 1 400000000 _).mono ?_;rintro e w' ⟨rfl,rfl⟩;rw[b])
    |(go_at_call 137;refine (Zax x _).mono ?_;rintro e w' ⟨rfl,rfl⟩;rw[d])
    |(go_at_call 263;refine (ZvH x y _ l m).mono ?_;rintro e w' ⟨rfl,hGg⟩;rw[f.out]))
   go_ret;exact JD
theorem ZlB (n d:Int) (w:World) (hn: -1000000000000000000<=n/\n<=1000000000000000000) (hd: -1000000000000000000<=d/\d<=1000000000000000000) (h0:d≠0):Calls JG 294 #[Yv Yi n,Yv Yi d] w fun e w'=>e= .returned (RV (Zef n d))/\Grow w w':=by
 have q0:(d==0)=false:=Ee
 have r:=(JH w).alloc #[Yv Yi 0,Yv Yi 0] 207;have S:=JP w #[Yv Yi 0,Yv Yi 0] 207;have q:0<JS n d:=Nw fun e=>h0 (PK.1 e).2;have s:JS n d<=d.natAbs:=PL I (PM n d);obtain ⟨G,i⟩: ∃ G:Int,((JS n d:Nat):Int)=G:=⟨_,rfl⟩;have F:sgD n d=if d<0 then -G else G:=by unfold sgD;rw[i]
 have Hs:=hid F;have T:0<G/\G<=1000000000000000000:=I
 clear F q s;have t:=hid i;clear i;go_enter func294,ntmps294;go_wp2_with fail;all_goals
  first
   |rw[if_pos ‹_›] at Hs
    have l:=hid (show ((JS (-n) (-d):Nat):Int)=G by rw[Int.gcd_neg,Int.neg_gcd];exact t.out);have v:=hid (show wrap64 (-n.tdiv G)=n.tdiv (sgD n d)/\wrap64 (-d.tdiv G)=d.tdiv (sgD n d) by rw[Hs.out,Ny,Ny];exact ⟨ZK (by have:=Zbw n G;omega),ZK (by have:=Zbw d G;omega)⟩)
   |rw[if_neg (Nz.2 ‹_›)] at Hs
    have l:=t;have v:=hid (show n.tdiv G=n.tdiv (sgD n d)/\d/G=d.tdiv (sgD n d) by rw[Hs.out,NQ (a:=d) I];exact ⟨rfl,rfl⟩)
  go_loopw [5,6] (fun V z wr=>Grow (w.alloc (.cells #[Yv Yi 0,Yv Yi 0] 207)) wr/\ ∃ x y:Int,V=Yv Yi x/\z=Yv Yi y/\(-1000000000000000000<=x/\x<=1000000000000000000)/\(-1000000000000000000<=y/\y<=1000000000000000000)/\((JS x y:Nat):Int)=G) (fun _ z _=>(intOf z).natAbs);case atStart=>exact ⟨JH _,_,_,rfl,rfl,I,I,l.out⟩
  case round=>
   obtain ⟨hGr,x,y,rfl,rfl,H,hy,q⟩:=hrel;have J:=hid q;clear q;by_cases c:y=0
   ·have W:(y !=0)=false:=(by simp[c]);have Z:=hid (show (x.natAbs:Int)=G by rw[←J.out,c,Zkb]);have j:=S.grow hGr;obtain ⟨⟨L,M⟩,N,O⟩:=j.two;have h:=j.lt;clear h0 c;go_wp2_with fail;refine (Zeu x _ I).mono ?_;rintro e _ ⟨rfl,rfl⟩;rw[Z.out];clear H hy L M N O h;have A:=v.out.1;have B:=v.out.2;have aa: ¬ G=0:=I;have hG2:Grow w wr:=r.trans hGr;obtain ⟨X,f⟩: ∃ X,n.tdiv (sgD n d)=X:=⟨_,rfl⟩;obtain ⟨Y,k⟩: ∃ Y,d.tdiv (sgD n d)=Y:=⟨_,rfl⟩;have m:wrap64 X=X:=ZK (by rw[←f];have:=Zbw n (sgD n d);omega);rw[f] at A;rw[k] at B;have Hl:=hid (show Zef n d=if isR (X,Y)=true then (X,Y) else rt0 by unfold Zef;rw[f,k]);clear f k Hs t;go_wp2_with fail;go_region;(first |rw[A,B]|skip);(first |rw[m]|skip);clear A B m;obtain ⟨P,g⟩:=eX ((wr.alloc (.cells #[Yv Yi X,Yv Yi Y] 207)).drew);have hG3:Grow wr P:=(by rw[g];exact ((JH _).alloc _ _).drew);have C:Blk P wr.heap.size #[Yv Yi X,Yv Yi Y] 207:=(by rw[g];exact (JP wr _ _).grow (JH _).drew);have D:=j.grow hG3;rw[←g];clear g;obtain ⟨⟨m0,m1⟩, -⟩:=C.two;have E:=C.lt;go_wp2_with fail;refine (Za6 (X,Y) _).mono ?_;rintro e w4 ⟨rfl,hG4⟩;have o:=C.grow hG4;have bZ4:=D.grow hG4;obtain ⟨⟨n0,n1⟩, -⟩:=o.two;obtain ⟨⟨L,M⟩,N,O⟩:=bZ4.two;have R:=o.lt;have h:=bZ4.lt;clear m0 m1;cases hr:isR (X,Y) with
    |true=>exact GP
    |false=>exact GQ
   ·have W:(y !=0)=true:=(by simp[c]);have hm:=ZlR (b:=y) H;have E:=ZgV (a:=x) c;have Hs:=hid (show ((JS y (x.tmod y):Nat):Int)=G by rw[Ziq,J.out]);clear hn hd h0;go_wp2;exact G7
def ZfP (f:Nat) (g:Rt->Rt->Rt):Prop:= ∀ (a b:Rt) (w:World),Calls JG f #[RV a,RV b] w fun e w'=>e= .returned (RV (g a b))/\Grow w w'
def Zs2 (g:Rt->Rt->Rt):Prop:= ∀ (a b:Rt),isR a=false\/isR b=false->g a b=rt0
theorem Zjl:Zs2 Za1/\Zs2 ZA/\Zs2 ZcW:=by
 refine ⟨fun a b h=> ?_,fun a b h=> ?_,fun a b h=> ?_⟩;all_goals
  first |unfold Za1|unfold ZA|unfold ZcW
  rcases h with h|h<;>rw[h]<;>simp
theorem Zhm:(ZfP 320 Za1/\ZfP 259 Za1)/\(ZfP 313 ZA/\ZfP 261 ZA)/\ZfP 315 ZcW/\ZfP 262 ZcW:=by
 refine ⟨⟨?_, ?_⟩,⟨?_, ?_⟩, ?_, ?_⟩
 case' refine_1=>have hno:=Zjl.1
 case' refine_2=>have hno:=Zjl.1
 case' refine_3=>have hno:=Zjl.2.1
 case' refine_4=>have hno:=Zjl.2.1
 case' refine_5=>have hno:=Zjl.2.2
 case' refine_6=>have hno:=Zjl.2.2
 all_goals
  intro a b w;obtain ⟨x,y⟩:=a;obtain ⟨u,v⟩:=b;have hG1:=(((JH w).alloc #[Yv Yi x,Yv Yi y] 207).alloc #[Yv Yi u,Yv Yi v] 207).alloc #[Yv Yi 0,Yv Yi 0] 207;obtain ⟨w1,hw1, -,bA,bB,bZ, -⟩:=al3 w #[Yv Yi x,Yv Yi y] 207 #[Yv Yi u,Yv Yi v] 207 #[Yv Yi 0,Yv Yi 0] 207;rw[←hw1] at hG1;obtain ⟨⟨a0,a1⟩, -⟩:=bA.two;obtain ⟨⟨b0,b1⟩, -⟩:=bB.two;have hlA:=bA.lt;have hlB:=bB.lt;rw[hw1] at a0 a1 b0 b1 hlA hlB;first |(go_enter func320,ntmps320)|(go_enter func259,ntmps259)|(go_enter func313,ntmps313)|(go_enter func261,ntmps261)|(go_enter func315,ntmps315)|(go_enter func262,ntmps262)
  go_wp2_with fail;rw[←hw1];clear hw1;first |refine (ZbJ (x,y) _).mono ?_|refine (Za6 (x,y) _).mono ?_
  rintro e w2 ⟨rfl,hG2⟩;replace bA:=bA.grow hG2;replace bB:=bB.grow hG2;replace bZ:=bZ.grow hG2;replace hG1:=hG1.trans hG2;clear a0 a1 b0 b1 hlA hlB;obtain ⟨⟨a0,a1⟩, -⟩:=bA.two;obtain ⟨⟨b0,b1⟩, -⟩:=bB.two;have hlA:=bA.lt;have hlB:=bB.lt;cases ha:isR (x,y);case false=>have Hr:=hid (hno _ (u,v) (.inl ha));clear ha;obtain ⟨⟨z0,z1⟩,f0,f1⟩:=bZ.two;have hltZ:=bZ.lt;have hK:=(hG1.setCell (p:=⟨w.heap.size+1+1,0,none⟩) ο (Yv Yi 0)).setCell (p:=⟨w.heap.size+1+1,1,none⟩) ο (Yv Yi 0);go_wp2;exact Zx Zdk rfl rfl rfl ((bZ.set 0 _).set 1 _) ⟨A7,hK⟩
  case' true=>
   have m:=ZcM.1 ha;have n:=hid ha;clear ha;go_wp2_with fail;(first |refine (ZbJ (u,v) _).mono ?_|refine (Za6 (u,v) _).mono ?_);rintro e F ⟨rfl,c⟩;replace bA:=bA.grow c;replace bB:=bB.grow c;replace bZ:=bZ.grow c;replace hG1:=hG1.trans c;clear a0 a1 b0 b1 hlA hlB;obtain ⟨⟨a0,a1⟩, -⟩:=bA.two;obtain ⟨⟨b0,b1⟩, -⟩:=bB.two;have hlA:=bA.lt;have hlB:=bB.lt;cases f:isR (u,v);case false=>have Hr:=hid (hno (x,y) _ (.inr f));clear f;obtain ⟨⟨z0,z1⟩,f0,f1⟩:=bZ.two;have hltZ:=bZ.lt;have hK:=(hG1.setCell (p:=⟨w.heap.size+1+1,0,none⟩) ο (Yv Yi 0)).setCell (p:=⟨w.heap.size+1+1,1,none⟩) ο (Yv Yi 0);go_wp2;exact Zx Zdk rfl rfl rfl ((bZ.set 0 _).set 1 _) ⟨A7,hK⟩
   case' true=>have o:=ZcM.1 f;have r:=hid f;clear f;obtain ⟨⟨p1,p2⟩,⟨p3,p4⟩, -⟩:=m;obtain ⟨⟨q1,q2⟩,⟨q3,q4⟩, -⟩:=o;simp only at p1 p2 p3 p4 q1 q2 q3 q4
 iterate 2
  focus
   by_cases l:u=0
   ·have Hr:=hid (show ZcW (x,y) (u,v)=rt0 by unfold ZcW;simp only[l];simp);subst l;obtain ⟨⟨z0,z1⟩,f0,f1⟩:=bZ.two;have hltZ:=bZ.lt;have hK:=(hG1.setCell (p:=⟨w.heap.size+1+1,0,none⟩) ο (Yv Yi 0)).setCell (p:=⟨w.heap.size+1+1,1,none⟩) ο (Yv Yi 0);go_wp2;exact IR
   ·have t:(u==0)=false:=(by rw[beq_eq_false_iff_ne];exact l);have d:=Zbk (p:=400000000) (q:=400000000) ⟨p3,p4⟩ (b:=v) ⟨I,q2⟩;have g:=Zbk (p:=400000000) (q:=400000000) (a:=y) ⟨I,p2⟩ (b:=u) ⟨q3,q4⟩;have i: ¬ y*u=0:=fun e=>(by rcases Int.mul_eq_zero.1 e with h|h<;>omega);obtain ⟨N,hN⟩: ∃ N,x*v=N:=⟨_,rfl⟩;obtain ⟨D,hD⟩: ∃ D,y*u=D:=⟨_,rfl⟩;have Hr:=hid (show ZcW (x,y) (u,v)=Zef N D by unfold ZcW;rw[n.out,r.out, ←hN, ←hD];simp[l]);rw[hN] at d;rw[hD] at g i;have j:wrap64 (x*v)=N:=EM;have k:wrap64 (y*u)=D:=EN;exact Ge
 iterate 2
  focus
   have d:=Zbk (p:=400000000) (q:=400000000) ⟨p3,p4⟩ (b:=u) ⟨q3,q4⟩;have g:=Zbk (p:=400000000) (q:=400000000) (a:=y) ⟨I,p2⟩ (b:=v) ⟨I,q2⟩;have i:0<y*v:=PN I I;obtain ⟨N,hN⟩: ∃ N,x*u=N:=⟨_,rfl⟩;obtain ⟨D,hD⟩: ∃ D,y*v=D:=⟨_,rfl⟩;have Hr:=hid (show ZA (x,y) (u,v)=Zef N D by unfold ZA;rw[n.out,r.out, ←hN, ←hD];rfl);rw[hN] at d;rw[hD] at g i;have j:wrap64 (x*u)=N:=EM;have k:wrap64 (y*v)=D:=EN;exact Ge
 iterate 2
  focus
   have d:=Zbk (p:=400000000) (q:=400000000) ⟨p3,p4⟩ (b:=v) ⟨I,q2⟩;have s:=Zbk (p:=400000000) (q:=400000000) ⟨q3,q4⟩ (b:=y) ⟨I,p2⟩;have g:=Zbk (p:=400000000) (q:=400000000) (a:=y) ⟨I,p2⟩ (b:=v) ⟨I,q2⟩;have i:0<y*v:=PN I I;obtain ⟨A,hA⟩: ∃ A,x*v=A:=⟨_,rfl⟩;obtain ⟨B,hB⟩: ∃ B,u*y=B:=⟨_,rfl⟩;obtain ⟨D,hD⟩: ∃ D,y*v=D:=⟨_,rfl⟩;obtain ⟨N,hN⟩: ∃ N,A+B=N:=⟨_,rfl⟩;have Hr:=hid (show Za1 (x,y) (u,v)=Zef N D by unfold Za1;rw[n.out,r.out, ←hN, ←hA, ←hB, ←hD];rfl);rw[hA] at d;rw[hB] at s;rw[hD] at g i;have j:wrap64 (x*v)=A:=EP;have z:wrap64 (u*y)=B:=EO;have k:wrap64 (y*v)=D:=EN;have C:wrap64 (A+B)=N:=EM;have E: -1000000000000000000<=N/\N<=1000000000000000000:=I;clear d s hA hB hD hN;go_wp2_with fail;(first |refine (ZiA N D _ I I I).mono ?_|refine (ZlB N D _ I I I).mono ?_);rintro e w4 ⟨rfl,hG4⟩;clear p1 p2 p3 p4 q1 q2 q3 q4;replace bA:=bA.grow hG4;replace bB:=bB.grow hG4;replace bZ:=bZ.grow hG4;replace hG1:=hG1.trans hG4;clear a0 a1 b0 b1 hlA hlB;obtain ⟨⟨a0,a1⟩, -⟩:=bA.two;obtain ⟨⟨b0,b1⟩, -⟩:=bB.two;have hlA:=bA.lt;have hlB:=bB.lt;obtain ⟨⟨z0,z1⟩,f0,f1⟩:=bZ.two;have hltZ:=bZ.lt;generalize Zef N D=L at *;obtain ⟨l1,l2⟩:=L;have hK:=(hG1.setCell (p:=⟨w.heap.size+1+1,0,none⟩) ο (Yv Yi l1)).setCell (p:=⟨w.heap.size+1+1,1,none⟩) ο (Yv Yi l2);go_wp2;exact Zx Zdk rfl rfl rfl ((bZ.set 0 _).set 1 _) ⟨A7,hK⟩
theorem ZrK (a:Rt) (w:World):(Calls JG 321 #[RV a] w fun e w'=>e= .returned (RV (ZaM a))/\Grow w w')/\Calls JG 260 #[RV a] w fun e w'=>e= .returned (RV (ZaM a))/\Grow w w':=by
 constructor;all_goals
  obtain ⟨x,y⟩:=a;have b:=((JH w).alloc #[Yv Yi x,Yv Yi y] 207).alloc #[Yv Yi 0,Yv Yi 0] 207;obtain ⟨s,c, -,g,bZ, -⟩:=al2 w #[Yv Yi x,Yv Yi y] 207 #[Yv Yi 0,Yv Yi 0] 207;rw[←c] at b;obtain ⟨⟨i,j⟩, -⟩:=g.two;have d:=g.lt;rw[c] at i j d;first |(go_enter func321,ntmps321)|(go_enter func260,ntmps260)
  go_wp2_with fail;rw[←c];clear c i j d;first |refine (ZbJ (x,y) _).mono ?_|refine (Za6 (x,y) _).mono ?_
  rintro e t ⟨rfl,f⟩;replace g:=g.grow f;replace bZ:=bZ.grow f;replace b:=b.trans f;obtain ⟨⟨i,j⟩, -⟩:=g.two;obtain ⟨⟨v,z⟩,A,B⟩:=bZ.two;have d:=g.lt;have l:=bZ.lt;cases h:isR (x,y) with
  |false=>have Hr:=hid (show ZaM (x,y)=rt0 by unfold ZaM;rw[h];rfl);clear h;have hK:=(b.setCell (p:=⟨w.heap.size+1,0,none⟩) CV (Yv Yi 0)).setCell (p:=⟨w.heap.size+1,1,none⟩) CV (Yv Yi 0);go_wp2;exact IR
  |true=>have k:=ZcM.1 h;have Hr:=hid (show ZaM (x,y)=(-x,y) by unfold ZaM;rw[h];rfl);clear h;obtain ⟨⟨m,n⟩,⟨o,q⟩, -⟩:=k;simp only at m n o q;have r:wrap64 (-x)= -x:=ZK I;have hK:=(b.setCell (p:=⟨w.heap.size+1,0,none⟩) CV (Yv Yi (-x))).setCell (p:=⟨w.heap.size+1,1,none⟩) CV (Yv Yi y);go_wp2;exact IR
theorem Ztm:ZfP 320 Za1:=Zhm.1.1
theorem Zoo:ZfP 259 Za1:=Zhm.1.2
theorem Zhr:ZfP 313 ZA:=Zhm.2.1.1
theorem ZhV:ZfP 261 ZA:=Zhm.2.1.2
theorem Ztt:ZfP 315 ZcW:=Zhm.2.2.1
theorem ZtR:ZfP 262 ZcW:=Zhm.2.2.2
theorem ZtJ (a:Rt) (w:World):Calls JG 321 #[RV a] w fun e w'=>e= .returned (RV (ZaM a))/\Grow w w':=(ZrK a w).1
theorem Zob (a:Rt) (w:World):Calls JG 260 #[RV a] w fun e w'=>e= .returned (RV (ZaM a))/\Grow w w':=(ZrK a w).2
theorem Zop (n:Int) (w:World):Calls JG 311 #[Yv Yi n] w fun e w'=>e= .returned (RV (n,1))/\Grow w w':=by
 go_enter func311,ntmps311;go_wp2;exact Zx Zdk rfl rfl rfl (JP _ _ _) ⟨rfl,(JH w).alloc _ _⟩
theorem ZoU (n d:Int) (w:World) (hn: -4000000000<=n/\n<=4000000000) (hd:0<d/\d<=4000000000):Calls JG 323 #[Yv Yi n,Yv Yi d] w fun e w'=>e= .returned (Yv Yi (n/d))/\Grow w w':=by
 have m:=Zbw n d;have h3:=Int.emod_nonneg n (show d≠0 by omega);have h4:=Int.emod_lt_of_pos n hd.1;have h5:=Int.emod_add_mul_ediv n d;have i: ¬ d<0:=I
 have j: ¬ d=0:=I
 by_cases f:n<0
 ·by_cases g:n.tmod d=0
  ·have he:n.tdiv d=n/d:=(by rw[Int.tdiv_eq_ediv_of_dvd (Int.dvd_of_tmod_eq_zero g)]);have He:=hid he;have c:wrap64 (n.tdiv d)=n.tdiv d:=ZK I;exact Jb
  ·have he:n.tdiv d-1=n/d:=by
    have k:=Int.tdiv_eq_ediv (a:=n) (b:=d);rw[if_neg (by
     rintro (h|h)
     ·omega
     ·exact g (Int.tmod_eq_zero_of_dvd h))] at k
    have o:d.sign=1:=Int.sign_eq_one_of_pos hd.1;omega
   have He:=hid he;have c:wrap64 (n.tdiv d)=n.tdiv d:=ZK I;have l:wrap64 (n.tdiv d-1)=n.tdiv d-1:=ZK I;exact Jb
 ·have he:n.tdiv d=n/d:=NQ I;have He:=hid he;have c:wrap64 (n.tdiv d)=n.tdiv d:=ZK I;clear he h3 h4 h5;go_enter func323,ntmps323;go_wp2;all_goals (go_ret;exact ⟨ZJ He.out,JH _⟩)
theorem Zs6 (a:Rt) (w:World):Calls JG 316 #[RV a] w fun e w'=>e= .returned (Yv Yi (Zap a))/\Grow w w':=by
 obtain ⟨x,y⟩:=a;have hG1:=(JH w).alloc #[Yv Yi x,Yv Yi y] 207;have b:=JP w #[Yv Yi x,Yv Yi y] 207;obtain ⟨⟨h,i⟩, -⟩:=b.two;have c:=b.lt;go_enter func316,ntmps316;go_wp2_with fail;clear h i c;refine (ZbJ (x,y) _).mono ?_;rintro e q ⟨rfl,d⟩;replace b:=b.grow d;replace hG1:=hG1.trans d;obtain ⟨⟨h,i⟩, -⟩:=b.two;have c:=b.lt;cases f:isR (x,y) with
 |false=>have Hr:=hid (show Zap (x,y)=0 by unfold Zap;rw[f];rfl);clear f;go_wp2;exact GH
 |true=>have g:=ZcM.1 f;have Hr:=hid (show Zap (x,y)=(2*x+y)/(2*y) by unfold Zap;rw[f];rfl);clear f;obtain ⟨⟨j,k⟩,⟨l,m⟩, -⟩:=g;simp only at j k l m;have n:wrap64 (2*x)=2*x:=ZK I;have o:wrap64 (2*y)=2*y:=ZK I;have p:wrap64 (2*x+y)=2*x+y:=ZK I;go_wp2_with fail;refine (ZoU (2*x+y) (2*y) _ I I).mono ?_;exact Jt
theorem Zt2 (a b:Rt) (w:World):Calls JG 324 #[RV a,RV b] w fun e w'=>e= .returned (Yv Yi (ZV a b))/\Grow w w':=by
 obtain ⟨x,y⟩:=a;obtain ⟨u,v⟩:=b;have hG1:=((JH w).alloc #[Yv Yi x,Yv Yi y] 207).alloc #[Yv Yi u,Yv Yi v] 207;obtain ⟨g,c, -,bA,bB, -⟩:=al2 w #[Yv Yi x,Yv Yi y] 207 #[Yv Yi u,Yv Yi v] 207;rw[←c] at hG1;obtain ⟨⟨a0,a1⟩, -⟩:=bA.two;obtain ⟨⟨b0,b1⟩, -⟩:=bB.two;have hlA:=bA.lt;have hlB:=bB.lt;rw[c] at a0 a1 b0 b1 hlA hlB;go_enter func324,ntmps324;go_wp2_with fail;rw[←c];clear c a0 a1 b0 b1 hlA hlB;refine (ZbJ (x,y) _).mono ?_;rintro e h ⟨rfl,d⟩;replace bA:=bA.grow d;replace bB:=bB.grow d;replace hG1:=hG1.trans d;obtain ⟨⟨a0,a1⟩, -⟩:=bA.two;obtain ⟨⟨b0,b1⟩, -⟩:=bB.two;have hlA:=bA.lt;have hlB:=bB.lt;cases f:isR (x,y) with
 |false=>have Hr:=hid (show ZV (x,y) (u,v)=2 by unfold ZV;rw[f];rfl);clear f;go_wp2;exact GH
 |true=>
  have hxa:=ZcM.1 f;have Ha:=hid f;clear f;go_wp2_with fail;refine (ZbJ (u,v) _).mono ?_;exact FR
def ZdQ (a b:Rt):Rt:=Za1 a (ZaM b)
theorem Zou (a b:Rt) (w:World):Calls JG 312 #[RV a,RV b] w fun e w'=>e= .returned (RV (ZdQ a b))/\Grow w w':=by
 obtain ⟨x,y⟩:=a;obtain ⟨u,v⟩:=b;have d:=(((JH w).alloc #[Yv Yi x,Yv Yi y] 207).alloc #[Yv Yi u,Yv Yi v] 207).alloc #[Yv Yi 0,Yv Yi 0] 207;obtain ⟨n,hw1, -,o,r,f, -⟩:=al3 w #[Yv Yi x,Yv Yi y] 207 #[Yv Yi u,Yv Yi v] 207 #[Yv Yi 0,Yv Yi 0] 207;rw[←hw1] at d;obtain ⟨⟨s,t⟩, -⟩:=o.two;obtain ⟨⟨z,A⟩, -⟩:=r.two;have g:=o.lt;have h:=r.lt;rw[hw1] at s t z A g h;have F:n.heap.size=w.heap.size+1+1+1:=DR
 go_enter func312,ntmps312;go_wp2_with fail;rw[←hw1];have H:w.heap.size≠w.heap.size+1+1:=I
 have J:w.heap.size+1≠w.heap.size+1+1:=I
 clear s t z A g h hw1;refine Zcr (fun q=>q≠w.heap.size+1+1) [([0,1],some 2),([],some 3),([],some 4)] ?_;refine ZR ?_;intro K hK;refine (ZtJ (u,v) _).mono ?_;rintro e M ⟨rfl,j⟩;have i:=(JH n).drew.trans j;go_wp2_with fail;refine hK _ _ (i.any) ?_;clear hK K;refine ZR ?_;intro K hK;refine (Ztm (x,y) (ZaM (u,v)) _).mono ?_;rintro e B ⟨rfl,k⟩;have c:=i.trans k;go_wp2_with fail;refine hK _ _ (c.any) ?_;clear hK K;refine Zh ?_;refine Zu rfl (fun K hK=> ?_);have G:=d.trans c;replace f:=f.grow c;have Hr:=hid (show ZdQ (x,y) (u,v)=Za1 (x,y) (ZaM (u,v)) from rfl);generalize Za1 (x,y) (ZaM (u,v))=L at *;obtain ⟨C,D⟩:=L;obtain ⟨⟨N,O⟩,P,R⟩:=f.two;have E:=f.lt;have l:=(G.setCell (p:=⟨w.heap.size+1+1,0,none⟩) ο (Yv Yi C)).setCell (p:=⟨w.heap.size+1+1,1,none⟩) ο (Yv Yi D);have m:Keep (fun q=>q≠w.heap.size+1+1) B ((B.setCell ⟨w.heap.size+1+1,0,none⟩ (Yv Yi C)).setCell ⟨w.heap.size+1+1,1,none⟩ (Yv Yi D)):=kS;go_wp2_with fail;refine hK _ _ ((c.any.trans m)) ?_;clear hK K;refine Ze ?_;go_wp2;exact Zx Zdk rfl rfl rfl ((f.set 0 _).set 1 _) ⟨A7,l⟩

end Go.Proofs.YtgjefeiddfjjnaaGreatDoor
