/- The reference's numbers with marks: sums, products, quotients; cells; whether a mark is in a list. -/
import Derived.Test.YtgjefeiddfjjnaaGreatDoorZHerm
set_option maxHeartbeats 8000000
set_option maxRecDepth 100000
namespace Go.Proofs.YtgjefeiddfjjnaaGreatDoor
open Go.RowKit
open Lib (hid)
open Go.Value renaming int->Yv
open Go.IntKind renaming i64->Yi
open Grow renaming refl->JH
open Int renaming emod_lt->Mt,emod_nonneg->LU,tdiv_eq_ediv->Ol,tmod_eq_emod->PG
open Keep renaming refl->JO
open List renaming getElem?_cons_succ->Kx,getElem?_cons_zero->Ku,getElem?_eq_getElem->JR,getElem?_toArray->Kt
open Nat renaming lt_of_lt_of_le->Lj,mul_le_mul->JL,zero_le->JI
open Go.Proofs.Tryz renaming func200->Nu,func226->PH,func250->Oj,func255->Ns,func256->Om,func257->Oh,ntmps200->Nv,ntmps226->PJ,ntmps250->Ok,ntmps255->Nt,ntmps256->Oo,ntmps257->Oi,prog->JG
open Go.Proofs.Tryz
variable {C R ca cu i j na nu:Nat} {S T:Nat->Prop} {a u:Option Addr} {d n:Int} {s:HS} {w w':World} {xs:List Int}
theorem ZlL (n:Int) (w:World):Calls JG 197 #[Yv Yi n] w fun e w'=>e= .returned (Yv Yi (Zei n))/\w=w':=by
 cases h:inB n (-400000000) 400000000 with
 |true=>have e:Zei n=n:=Zev h;exact Ia
 |false=>have e:Zei n=ZS:=Zge h;exact Ia
theorem ZpZ (a b:Int) (w:World) (ha:NumS a) (hb:NumS b):Calls JG 257 #[Yv Yi a,Yv Yi b] w fun e w'=>e= .returned (Yv Yi (ZbX a b))/\w=w':=by
 by_cases h1:a= -4611686018427387904
 ·have E:=hid (show ZbX a b=ZS by unfold ZbX;rw[if_pos (.inl h1)]);subst h1;go_enter Oh,Oi;go_wp2;exact IG
 ·by_cases h2:b= -4611686018427387904
  ·have E:=hid (show ZbX a b=ZS by unfold ZbX;rw[if_pos (.inr h2)]);subst h2;go_enter Oh,Oi;go_wp2;exact IG
  ·have E:=hid (show ZbX a b=Zei (a+b) by unfold ZbX;rw[if_neg (by rintro (h|h);exact h1 h;exact h2 h)]);have c:(a== -4611686018427387904)=false:=C8;have d:(b== -4611686018427387904)=false:=Cd;have f: -400000000<=a/\a<=400000000:=ha.resolve_right h1;have g: -400000000<=b/\b<=400000000:=hb.resolve_right h2;go_enter Oh,Oi;go_wp2_with fail;refine (ZlL _ _).mono ?_;rintro e w' ⟨rfl,rfl⟩;go_wp2;exact IG
theorem Zlp (a b:Int) (w:World) (ha:NumS a) (hb:NumS b):Calls JG 250 #[Yv Yi a,Yv Yi b] w fun e w'=>e= .returned (Yv Yi (ZaT a b))/\w=w':=by
 by_cases h1:a= -4611686018427387904
 ·have E:=hid (show ZaT a b=ZS by unfold ZaT;rw[if_pos (.inl h1)]);subst h1;go_enter Oj,Ok;go_wp2;exact IG
 ·by_cases h2:b= -4611686018427387904
  ·have E:=hid (show ZaT a b=ZS by unfold ZaT;rw[if_pos (.inr h2)]);subst h2;go_enter Oj,Ok;go_wp2;exact IG
  ·have E:=hid (show ZaT a b=Zei (a*b) by unfold ZaT;rw[if_neg (by rintro (h|h);exact h1 h;exact h2 h)]);have g:(a== -4611686018427387904)=false:=C8;have i:(b== -4611686018427387904)=false:=Cd;have c: -400000000<=a/\a<=400000000:=ha.resolve_right h1;have d: -400000000<=b/\b<=400000000:=hb.resolve_right h2;have f:=Ze7 c d;have u:IntKind.i64.wrap (a*b)=a*b:=IntWalk.i64_in _ I;have u2:wrap64 (a*b)=a*b:=θ;clear f;go_enter Oj,Ok;go_wp2_with fail;refine (ZlL _ _).mono ?_;rintro e w' ⟨rfl,rfl⟩;go_wp2;exact IG
theorem Zeu (a:Int) (w:World) (h: -9223372036854775807<=a/\a<=9223372036854775807):Calls JG 254 #[Yv Yi a] w fun e w'=>e= .returned (Yv Yi (a.natAbs:Int))/\w=w':=by
 go_enter func254,ntmps254;go_wp2;all_goals (go_ret;exact ⟨ZJ I,rfl⟩)
def Zb1 (xs:List Int):Bool:=xs.any fun x=>x==ZS
theorem ZaS:Zb1 xs=true↔ZS∈xs:=by unfold Zb1;simp
theorem ZT (a:Option Addr) (n cap:Nat) (xs:List Int) (w:World) (h:RdI w S a n cap xs) (hn:n<=2097152):
  Calls JG 202 #[.slice a n cap] w fun e w'=>e= .returned (.bool (Zb1 xs))/\Qt w w':=by
 have s:=h.len;go_enter func202,ntmps202;go_wp2;go_loopw [3] (fun i wr=>Qt w wr/\ ∃ k:Nat,k<=n/\i=Yv Yi k/\ ∀ x∈xs.take k,x≠ZS) (fun i _=>n-(intOf i).toNat);case atStart=>exact ⟨Qt.refl _,0,JI _,rfl,Θ⟩
 case round=>
  obtain ⟨d,k,t,rfl,b⟩:=hrel;have c:=hid b;clear b;by_cases g:k<n
  ·obtain ⟨v,m,x,rfl,o,q,_,r,y⟩:=(h.grow d.grow).at g;have p:=hid o;clear o;by_cases j:x= -4611686018427387904
   ·have E:=hid (ZaS.2 (by rw[show ZS=x from j.symm];exact List.mem_of_getElem? p.out));subst j;go_wp2;go_ret;exact ⟨BB,d⟩
   ·go_wp2;go_roundw;case rel=>
     refine ⟨d,k+1,I,Δ,fun z f=> ?_⟩;rw[ZH p.out,List.mem_append,List.mem_singleton] at f;rcases f with f|rfl
     ·exact c.out z f
     ·exact j
    case measure=>exact FN
  ·have E:=hid (show Zb1 xs=false by
    rw[Bool.eq_false_iff];intro e;have:=ZaS.1 e;rw[←Z5 (l:=xs) (n:=k) I] at this;exact c.out _ this rfl)
   go_wp2;go_ret;exact ⟨BB,d⟩
theorem Zj1 (hd:d≠0) (h:n.tmod d<0):n.tdiv d=n/d+d.sign/\n.tmod d+d.natAbs=n%d:=by
 have f:=Ol (a:=n) (b:=d);have c:=PG (a:=n) (b:=d);have g:=LU n hd;by_cases e:0<=n\/d∣n
 ·rw[if_pos e] at c;omega
 ·rw[if_neg e] at f c;omega
theorem Zj7 (hd:d≠0) (h:0<=n.tmod d):n.tdiv d=n/d/\n.tmod d=n%d:=by
 have f:=Ol (a:=n) (b:=d);have c:=PG (a:=n) (b:=d);have g:=Mt n hd;by_cases e:0<=n\/d∣n
 ·rw[if_pos e] at f c;omega
 ·rw[if_neg e] at c;omega
theorem Zre (hd:d≠0):(n-n%d).tdiv d=n/d:=by
 have h:n-n%d=d*(n/d):=by have:=Int.emod_def n d;omega
 rw[h,Int.mul_tdiv_cancel_left _ hd]
theorem Zva:n/d= -(n/ -d):=by rw[Int.ediv_neg];omega
theorem Zsg (n d:Int) (w:World) (hn: -400000000<=n/\n<=400000000) (hd:0<d/\d<=400000000):Calls JG 255 #[Yv Yi n,Yv Yi d] w fun e w'=>e= .returned (Yv Yi (n/d))/\w=w':=by
 have b:=Ze9 (n:=n) (d:=d) hn I;by_cases h:n.tmod d<0
 ·have a:=(Zj1 I h).1;rw[Int.sign_eq_one_of_pos hd.1] at a;have H:=hid a;clear a;go_enter Ns,Nt;go_wp2;go_ret;refine ⟨ZJ ?_,rfl⟩;rw[H.out];unfold wrap64;omega
 ·have a:=(Zj7 (n:=n) (d:=d) I I).1;have H:=hid a;clear a;go_enter Ns,Nt;go_wp2;go_ret;exact ⟨ZJ H.out,rfl⟩
theorem ZdL (n d:Int) (w:World):Calls JG 200 #[Yv Yi n,Yv Yi d] w fun e w'=> ∃ q r b,e= .returned (.tuple #[Yv Yi q,Yv Yi r, .bool b])/\(-400000000<=q/\q<=400000000)/\(Zi n=true->Zi d=true->d≠0->q=n/d)/\w=w':=by
 cases a:Zi n with
 |false=>
  have H:=hid a;clear a;go_enter Nu,Nv;go_wp2_with fail;refine (Zax _ _).mono ?_;rintro e w' ⟨rfl,rfl⟩;rw[H.out];go_wp2
  go_ret3
  exact ⟨_,_,_,rfl,I,(fun h=>Ω),rfl⟩
 |true=>
  have c:=ZB.1 a;cases f:Zi d with
  |false=>
   have H:=hid a;have g:=hid f;clear a f;go_enter Nu,Nv;go_wp2_with fail;refine (Zax _ _).mono ?_;rintro e w' ⟨rfl,rfl⟩;rw[H.out];go_wp2_with fail;refine (Zax _ _).mono ?_;rintro e w' ⟨rfl,rfl⟩;rw[g.out];go_wp2
   go_ret3
   exact ⟨_,_,_,rfl,I,(fun _ h=>Ω),rfl⟩
  |true=>
   have l:=ZB.1 f;have H:=hid a;have g:=hid f;clear a f;by_cases j:d=0
   ·subst j;go_enter Nu,Nv;go_wp2_with fail;refine (Zax _ _).mono ?_;rintro e w' ⟨rfl,rfl⟩;rw[H.out];go_wp2_with fail;refine (Zax _ _).mono ?_;rintro e w' ⟨rfl,rfl⟩;rw[g.out];go_wp2
    go_ret3
    exact ⟨_,_,_,rfl,I,(fun _ _ h=>(h rfl).elim),rfl⟩
   ·have m:(d==0)=false:=(by simpa using j);have o:=Ze9 (n:=n) (d:=(d.natAbs:Int)) c I;go_enter Nu,Nv;go_wp2_with fail;refine (Zax _ _).mono ?_;rintro e w' ⟨rfl,rfl⟩;rw[H.out];go_wp2_with fail;refine (Zax _ _).mono ?_;rintro e w' ⟨rfl,rfl⟩;rw[g.out];go_wp2_with fail;refine (Zeu _ _ I).mono ?_;rintro e w' ⟨rfl,rfl⟩;go_wp2_with fail;refine (Zsg _ _ _ c I).mono ?_;rintro e w' ⟨rfl,rfl⟩;by_cases k:d<0
    ·have i:=hid (show n/d= -(n/(d.natAbs:Int)) by rw[show (d.natAbs:Int)= -d by omega];exact Zva);generalize n/(d.natAbs:Int)=q at *;go_wp2_with fail;refine (Zeu _ _ I).mono ?_;rintro e w' ⟨rfl,rfl⟩;go_wp2
     go_ret3
     exact ⟨_,_,_,rfl,I,(fun _ _ _=>i.out.symm),rfl⟩
    ·have i:=hid (show n/d=n/(d.natAbs:Int) by rw[show (d.natAbs:Int)=d by omega]);generalize n/(d.natAbs:Int)=q at *;go_wp2
     go_ret3
     exact ⟨_,_,_,rfl,I,(fun _ _ _=>i.out.symm),rfl⟩
theorem Zse {a b c:Int} (h1:a=b) (h2:c=d):Ending.returned (.tuple #[Yv Yi a,Yv Yi c, .bool true])= .returned (.tuple #[Yv Yi b,Yv Yi d, .bool true]):=by rw[h1,h2]
theorem Zd9 (a:Int) (w:World) (h: -9223372036854775807<=a/\a<=9223372036854775807):Calls JG 223 #[Yv Yi a] w fun e w'=>e= .returned (Yv Yi (a.natAbs:Int))/\w=w':=by
 go_enter func223,ntmps223;go_wp2;all_goals (go_ret;exact ⟨ZJ I,rfl⟩)
theorem ZdH (n d:Int) (w:World) (hn: -400000000<=n/\n<=400000000) (hd: -400000000<=d/\d<=400000000) (h0:d≠0):Calls JG 226 #[Yv Yi n,Yv Yi d] w fun e w'=>e= .returned (.tuple #[Yv Yi (n/d),Yv Yi (n%d), .bool true])/\w=w':=by
 have H:=hid (ZB.2 hn);have i:=hid (ZB.2 hd);have m:(d==0)=false:=by simpa using h0
 have o:=Ze9 (n:=n) (d:=d) hn h0;have k:=LU n h0;have l:=Mt n h0;have g:=hid (Zre (n:=n) h0);by_cases h:n.tmod d<0
 ·have b:=(Zj1 h0 h).2;go_enter PH,PJ;go_wp2_with fail;refine (Z0 _ _).mono ?_;rintro e w' ⟨rfl,rfl⟩;rw[H.out];go_wp2_with fail;refine (Z0 _ _).mono ?_;rintro e w' ⟨rfl,rfl⟩;rw[i.out];go_wp2_with fail;refine (Zd9 _ _ I).mono ?_;rintro e w' ⟨rfl,rfl⟩;have a:=hid b;clear b;go_wp2
  go_ret3
  have j:wrap64 (n.tmod d+ ↑d.natAbs)=n%d:=by rw[a.out];unfold wrap64;omega
  have c:wrap64 (n-n%d)=n-n%d:=θ
  have f:wrap64 (n/d)=n/d:=θ
  exact ⟨Zse (by first |rw[j,c,g.out,f]|rw[a.out,c,g.out,f]) (by first |exact j|exact a.out),rfl⟩
 ·have b:=(Zj7 (n:=n) (d:=d) h0 I).2;have a:=hid b;clear b;go_enter PH,PJ;go_wp2_with fail;refine (Z0 _ _).mono ?_;rintro e w' ⟨rfl,rfl⟩;rw[H.out];go_wp2_with fail;refine (Z0 _ _).mono ?_;rintro e w' ⟨rfl,rfl⟩;rw[i.out];go_wp2
  go_ret3
  have c:wrap64 (n-n%d)=n-n%d:=θ
  have f:wrap64 (n/d)=n/d:=θ
  exact ⟨Zse (by rw[a.out,c,g.out,f]) a.out,rfl⟩
theorem Zab {x:Int} (hj:j<xs.length) (hx:xs.getD j 0=x):(ints xs)[j]? =some (Yv Yi x):=by
 rw[List.getElem?_map,JR hj];simp[List.getD,JR hj] at hx;rw[←hx];rfl
theorem Keep.on {a b c:World} (h:Keep S a b) (k:Keep T b c) (hT: ∀ i,i<a.heap.size->S i->T i):Keep S a c:=
 ⟨k.os.trans h.os, k.tape.trans h.tape, k.output.trans h.output, Nat.le_trans h.size k.size, fun x e => (k.frozen x (Lj e h.size)).trans (h.frozen x e),
  fun i d f=>(k.block i (Lj d h.size) (hT i d f)).trans (h.block i d f)⟩
theorem ZO (a:Option Addr) (n cp C i j:Nat) (R:Int) (cells:List Int) (w:World) (h:RdI w S a n cp cells) (hlt:i*C+j<n) (hi:i<=1048576) (hC:C<=1048576) (hj:j<=1048576):
  Calls JG 187 #[.agg #[Yv Yi R,Yv Yi C, .slice a n cp],Yv Yi i,Yv Yi j] w fun e w'=>e= .returned (Yv Yi (cell cells C i j))/\Grow w w':=by
 have m:=h.len;have f:Grow w (w.alloc (.cells #[Yv Yi R,Yv Yi C, .slice a n cp] 37)):=(JH w).alloc _ _;obtain ⟨b,k,y,rfl,g,o,_,p,l⟩:=(h.grow f).at hlt;have d:cell cells C i j=y:=getD_at g;rw[d];clear g d;have u1:=Z6 (i:=i) (c:=C) hi hC;have u2:=ZaF (i:=i) (c:=C) (j:=j) hi hC hj rfl;obtain ⟨x,d⟩:=eX (i*C+j);rw[←d] at l u2 hlt;clear d;go_enter func187,ntmps187;go_wp2;go_ret;exact ⟨rfl,f⟩
theorem Zpp (a:Option Addr) (n cp C i p:Nat) (R t:Int) (m:List Int) (w:World) (h:Own w 3 1 a n cp (ints m)) (hi:i*C+C<=n) (hp:p*C+C<=n) (hip:i≠p) (hm:NumBL m) (ht:NumS t) (hn:n<=1048576) (hi2:i<=1048576) (hp2:p<=1048576) (hC2:C<=1048576):
  Calls JG 256 #[.agg #[Yv Yi R,Yv Yi C, .slice a n cp], .agg #[Yv Yi 2,Yv Yi i,Yv Yi p,Yv Yi t]] w fun e w'=>e= .returned (.tuple #[])/\Own w' 3 1 a n cp (ints (Za3 m C i p t))/\Keep (fun q=>blk a≠some q) w w':=by
 obtain ⟨D,o⟩: ∃ D:Int,D=2:=⟨_,rfl⟩;rw[←o];have Z:m.length=n:=Ao
 have hG2:Grow w ((w.alloc (.cells #[Yv Yi R,Yv Yi (C:Int), .slice a n cp] 37)).alloc (.cells #[Yv Yi D,Yv Yi (i:Int),Yv Yi (p:Int),Yv Yi t] 169)):=((JH w).alloc _ _).alloc _ _;obtain ⟨V,hw2, -,bM,bX, -⟩:=al2 w #[Yv Yi R,Yv Yi (C:Int), .slice a n cp] 37 #[Yv Yi D,Yv Yi (i:Int),Yv Yi (p:Int),Yv Yi t] 169;have r:Own V 3 1 a n cp (ints m):=Fa
 rw[←hw2] at hG2;have F:blk a≠some w.heap.size:=fun e=>Ap
 have G:blk a≠some (w.heap.size+1):=fun e=>Ap
 have H:=hid hw2;clear hw2;clear h;subst o;go_enter Om,Oo;go_wp2;rw[←H.out];go_loopw [4] (fun q wr=>Keep (fun q=>blk a≠some q) V wr/\ ∃ k:Nat,k<=C/\q=Yv Yi k/\Own wr 3 1 a n cp (ints (Zz (ZcB m C i p t) (i*C) k m))) (fun q _=>C-(intOf q).toNat);case atStart=>exact ⟨JO _ _,0,JI _,rfl,r⟩
 case round=>
  clear r;obtain ⟨hK,k,hk,rfl,hO⟩:=hrel;have J:=bM.keep hK F;obtain ⟨⟨a0,a1,a2⟩, -⟩:=J.three;by_cases hlt:k<C
  ·have b:=bX.keep hK G;have x0:=b.cell 0;have W:=b.cell 1;have x2:=b.cell 2;have X:=b.cell 3;simp only[Kt,Ku,Kx] at x0 W x2 X;have s:(Zz (ZcB m C i p t) (i*C) k m).length=n:=(by rw[ZM,Z]);have v:(Zz (ZcB m C i p t) (i*C) k m).getD (i*C+k) 0=cell m C i k:=BP;have x:(Zz (ZcB m C i p t) (i*C) k m).getD (p*C+k) 0=cell m C p k:=Bn;obtain ⟨d,rfl⟩: ∃ d,a=some ⟨d,0,none⟩:=by
    exact Gz
   have L:=hO.cell (Zab I v);have M:=hO.cell (Zab I x);have N:=hO.free (i*C+k);have aa:=hO.lt (g:=d) rfl;have y:=hm.getD (i*C+k);have z:=hm.getD (p*C+k);have u1:=Z6 (i:=i) (c:=C) hi2 hC2;have u2:=ZaF (i:=i) (c:=C) (j:=k) hi2 hC2 I rfl;have u3:=Z6 (i:=p) (c:=C) hp2 hC2;have u4:=ZaF (i:=p) (c:=C) (j:=k) hp2 hC2 I rfl;have ab:=hO.le;change NumS (cell m C i k) at y;change NumS (cell m C p k) at z;have Hv:=hid (show ZcB m C i p t k=ZbX (cell m C i k) (ZaT (cell m C p k) t) from rfl);have f:=(hO.set (i*C+k) (Yv Yi (ZcB m C i p t k))).grow (JH _).drew;rw[←ints_set] at f;clear hO v x s;generalize cell m C i k=ca at *;generalize cell m C p k=Y at *;generalize A:i*C+k=E at *;generalize O:p*C+k=iy at *;have ad:E<n:=I;have ae:iy<n:=I;have P:=hid A;clear A O;simp only at L M N f;go_wp2;refine Zd1 (S:=(Keep (fun q=>blk (some (⟨d,0,none⟩:Addr))≠some q) wr)) [0,1,2,3,4,5,6,7,8,9,10,11,12] [13,14,15,16] ZaB Ξ (fun _ _ _ _ _ h=>h) (JO _ _).drew ?_;show wpQuiet _ _ _ (fun a'=>ZaQ _ _ _ _ [_,_,_,_] a' _) [_,_,_,_,_,_,_,_,_,_,_,_,_] _;(repeat (first |(go_big_quiet_want;(first |refine Zw Zhn rfl rfl (fun w' l=>l.cell F a2) ?_|refine Zw Zb6 rfl rfl (fun w' l=>l.cell G W) ?_|refine Zw Zb6 rfl rfl (fun w' l=>l.cell F a1) ?_|refine Zw Zb6 rfl rfl (fun w' l=>l.cell G X) ?_);go_big_quiet_on;simp only[putP])|go_big_quiet_step (exact fun _=>rfl)));refine wpQuiet_nil ?_;show ZaQ _ _ _ _ _ _ _;refine ZX rfl (fun K hK=> ?_);go_wp2_with fail;refine (Zlp Y t _ z ht).mono ?_;rintro e _ ⟨rfl,rfl⟩;go_wp2_with fail;refine hK _ _ ((JO _ _).drew) ?_;clear hK K;refine ZX rfl (fun K hK=> ?_);go_wp2_with fail;refine (ZpZ ca (ZaT Y t) _ y (Zsd _ _)).mono ?_;rintro e _ ⟨rfl,rfl⟩;rw[←Hv.out];go_wp2_with fail;refine hK _ _ ((JO _ _).drew) ?_;clear hK K;refine ZX rfl (fun K hK=> ?_);go_wp2_with fail;refine hK _ _ ((JO _ _).drew) ?_;clear hK K;refine ZX rfl (fun K hK=> ?_);go_wp2_with fail;have B:Keep (fun q=>blk (some (⟨d,0,none⟩:Addr))≠some q) wr (wr.setCell ⟨d,E,none⟩ (Yv Yi (ZcB m C i p t k))).drew:=((JO _ wr).setCell (p:=⟨d,E,none⟩) (fun _ e=>e rfl) _).drew;refine hK _ _ (B) ?_;clear hK K;refine Zfg ?_;go_wp2;go_roundw;case rel=>exact ⟨hK.trans B,k+1,I,Δ,by rw[show Zz (ZcB m C i p t) (i*C) (k+1) m=(Zz (ZcB m C i p t) (i*C) k m).set E (ZcB m C i p t k) by rw[←P.out];rfl];exact f⟩
   case measure=>exact FN
  ·have T:k=C:=I;subst T;go_wp2;exact G9
theorem Zp0 (a:Option Addr) (n cp C i:Nat) (R t:Int) (m:List Int) (w:World) (h:Own w 3 1 a n cp (ints m)) (hi:i*C+C<=n) (hm:NumL m) (hn:n<=1048576) (hi2:i<=1048576) (hC2:C<=1048576):
  Calls JG 256 #[.agg #[Yv Yi R,Yv Yi C, .slice a n cp],(.agg #[Yv Yi 1,Yv Yi i,Yv Yi i,Yv Yi t])] w fun e w'=>e= .returned (.tuple #[])/\Own w' 3 1 a n cp (ints (ZdT m C i))/\Keep (fun q=>blk a≠some q) w w':=by
 obtain ⟨A,l⟩: ∃ A:Int,A=1:=⟨_,rfl⟩;rw[←l];have V:m.length=n:=Ao
 have hG2:Grow w ((w.alloc (.cells #[Yv Yi R,Yv Yi (C:Int), .slice a n cp] 37)).alloc (.cells #[Yv Yi A,Yv Yi (i:Int),Yv Yi (i:Int),Yv Yi t] 169)):=((JH w).alloc _ _).alloc _ _;obtain ⟨M,hw2, -,W,X, -⟩:=al2 w #[Yv Yi R,Yv Yi (C:Int), .slice a n cp] 37 #[Yv Yi A,Yv Yi (i:Int),Yv Yi (i:Int),Yv Yi t] 169;have o:Own M 3 1 a n cp (ints m):=Fa
 rw[←hw2] at hG2;have B:blk a≠some w.heap.size:=fun e=>Ap
 have N:blk a≠some (w.heap.size+1):=fun e=>Ap
 have D:=hid hw2;clear hw2;clear h;subst l;go_enter Om,Oo;go_wp2;rw[←D.out];go_loopw [4] (fun q wr=>Keep (fun q=>blk a≠some q) M wr/\ ∃ k:Nat,k<=C/\q=Yv Yi k/\Own wr 3 1 a n cp (ints (Zz (fun k=> -cell m C i k) (i*C) k m))) (fun q _=>C-(intOf q).toNat);case atStart=>exact ⟨JO _ _,0,JI _,rfl,o⟩
 case round=>
  clear o;obtain ⟨hK,k,hk,rfl,hO⟩:=hrel;have E:=W.keep hK B;obtain ⟨⟨a0,Y,Z⟩, -⟩:=E.three;by_cases aa:k<C
  ·have b:=X.keep hK N;have x0:=b.cell 0;have O:=b.cell 1;have x2:=b.cell 2;have x3:=b.cell 3;simp only[Kt,Ku,Kx] at x0 O x2 x3;have r:(Zz (fun k=> -cell m C i k) (i*C) k m).length=n:=(by rw[ZM,V]);have s:(Zz (fun k=> -cell m C i k) (i*C) k m).getD (i*C+k) 0=cell m C i k:=BP;obtain ⟨f,rfl⟩: ∃ f,a=some ⟨f,0,none⟩:=by
    exact Gz
   have v:=hO.cell (Zab I s);have F:=hO.free (i*C+k);have ab:=hO.lt (g:=f) rfl;have d:=hm.getD (i*C+k);have u1:=Z6 (i:=i) (c:=C) hi2 hC2;have u2:=ZaF (i:=i) (c:=C) (j:=k) hi2 hC2 I rfl;have ad:=hO.le;change -400000000<=cell m C i k/\cell m C i k<=400000000 at d;have P:=hid (show ZaT (cell m C i k) (-1)= -cell m C i k by unfold ZaT;rw[if_neg (by rintro (e|e);exact Zaz d e;exact Zaz I e),Zev (ZB.2 I)];omega);have Hu:=hid (show Zz (fun k=> -cell m C i k) (i*C) (k+1) m=(Zz (fun k=> -cell m C i k) (i*C) k m).set (i*C+k) (-cell m C i k) from rfl);have hO9:=(hO.set (i*C+k) (Yv Yi (-cell m C i k))).grow (JH _).drew;rw[←ints_set] at hO9;clear hO s r;have G:=hid (rfl:cell m C i k=cell m C i k);generalize H:cell m C i k=T at v d hO9 P Hu;clear H G;generalize x:i*C+k=J at *;have ae:J<n:=I;have af:=hid x;clear x;simp only at v F hO9;go_wp2;refine Zd1 (S:=(Keep (fun q=>blk (some (⟨f,0,none⟩:Addr))≠some q) wr)) [0,1,2,3,4,5,6,7,8,9] [10,11,12] ZaB Ξ (fun _ _ _ _ _ h=>h) (JO _ _).drew ?_;show wpQuiet _ _ _ (fun a'=>ZaQ _ _ _ _ [_,_,_] a' _) [_,_,_,_,_,_,_,_,_,_] _;(repeat (first |(go_big_quiet_want;(first |refine Zw Zhn rfl rfl (fun w' y=>y.cell B Z) ?_|refine Zw Zb6 rfl rfl (fun w' y=>y.cell N O) ?_|refine Zw Zb6 rfl rfl (fun w' y=>y.cell B Y) ?_);go_big_quiet_on;simp only[putP])|go_big_quiet_step (exact fun _=>rfl)));refine wpQuiet_nil ?_;show ZaQ _ _ _ _ _ _ _;refine ZX rfl (fun K hK=> ?_);go_wp2_with fail;refine (Zlp T (-1) _ (.inl d) (.inl I)).mono ?_;rintro e _ ⟨rfl,rfl⟩;rw[P.out];go_wp2_with fail;refine hK _ _ ((JO _ _).drew) ?_;clear hK K;refine ZX rfl (fun K hK=> ?_);go_wp2_with fail;refine hK _ _ ((JO _ _).drew) ?_;clear hK K;refine ZX rfl (fun K hK=> ?_);go_wp2_with fail;have z:Keep (fun q=>blk (some (⟨f,0,none⟩:Addr))≠some q) wr (wr.setCell ⟨f,J,none⟩ (Yv Yi (-T))).drew:=((JO _ wr).setCell (p:=⟨f,J,none⟩) (fun _ e=>e rfl) _).drew;refine hK _ _ (z) ?_;clear hK K;refine Zfg ?_;go_wp2;go_roundw;case rel=>exact ⟨hK.trans z,k+1,I,Δ,Ei⟩
   case measure=>exact FN
  ·have L:k=C:=I;subst L;go_wp2;exact G9
theorem Zox (a:Option Addr) (n cp C i p R:Nat) (t:Int) (m:List Int) (w:World) (h:Own w 3 1 a n cp (ints m)) (hmR:m.length=R*C) (hiR:i<R) (hpR:p<R) (hip:i≠p) (hm:NumL m) (hn:n<=1048576) (hi2:i<=1048576) (hp2:p<=1048576) (hC2:C<=1048576):
  Calls JG 256 #[.agg #[Yv Yi (R:Int),Yv Yi C, .slice a n cp], .agg #[Yv Yi 0,Yv Yi i,Yv Yi p,Yv Yi t]] w fun e w'=>e= .returned (.tuple #[])/\Own w' 3 1 a n cp (ints (swR m C i p))/\Keep (fun q=>blk a≠some q) w w':=by
 have T:=ZcJ hmR hiR;have V:=ZcJ hmR hpR;rw[show m.length=n by simpa using h.len] at T V;obtain ⟨B,f⟩: ∃ B:Int,B=0:=⟨_,rfl⟩;rw[←f];have W:m.length=n:=Ao
 have hG2:Grow w ((w.alloc (.cells #[Yv Yi R,Yv Yi (C:Int), .slice a n cp] 37)).alloc (.cells #[Yv Yi B,Yv Yi (i:Int),Yv Yi (p:Int),Yv Yi t] 169)):=((JH w).alloc _ _).alloc _ _;obtain ⟨M,hw2, -,X,Y, -⟩:=al2 w #[Yv Yi R,Yv Yi (C:Int), .slice a n cp] 37 #[Yv Yi B,Yv Yi (i:Int),Yv Yi (p:Int),Yv Yi t] 169;have l:Own M 3 1 a n cp (ints m):=Fa
 rw[←hw2] at hG2;have N:blk a≠some w.heap.size:=fun e=>Ap
 have O:blk a≠some (w.heap.size+1):=fun e=>Ap
 have D:=hid hw2;clear hw2;clear h;subst f;go_enter Om,Oo;go_wp2;rw[←D.out];go_loopw [4] (fun q wr=>Keep (fun q=>blk a≠some q) M wr/\ ∃ k:Nat,k<=C/\q=Yv Yi k/\Own wr 3 1 a n cp (ints (swN m C i p k))) (fun q _=>C-(intOf q).toNat);case atStart=>exact ⟨JO _ _,0,JI _,rfl,l⟩
 case round=>
  clear l;obtain ⟨hK,k,hk,rfl,hO⟩:=hrel;have E:=X.keep hK N;obtain ⟨⟨a0,a1,a2⟩, -⟩:=E.three;by_cases hlt:k<C
  ·have b:=Y.keep hK O;have Z:=b.cell 0;have x1:=b.cell 1;have x2:=b.cell 2;have x3:=b.cell 3;simp only[Kt,Ku,Kx] at Z x1 x2 x3;have o:(swN m C i p k).length=n:=(by rw[ZbA,W]);have r:(swN m C i p k).getD (i*C+k) 0=cell m C i k:=Dm;have s:(swN m C i p k).getD (p*C+k) 0=cell m C p k:=Dl;obtain ⟨d,rfl⟩: ∃ d,a=some ⟨d,0,none⟩:=by
    exact Gz
   have v:=hO.cell (Zab I r);have x:=hO.cell (Zab I s);have F:=hO.free (i*C+k);have aa:=hO.lt (g:=d) rfl;have y:=hm.getD (i*C+k);have z:=hm.getD (p*C+k);have u1:=Z6 (i:=i) (c:=C) hi2 hC2;have u2:=ZaF (i:=i) (c:=C) (j:=k) hi2 hC2 I rfl;have u3:=Z6 (i:=p) (c:=C) hp2 hC2;have u4:=ZaF (i:=p) (c:=C) (j:=k) hp2 hC2 I rfl;have ab:=hO.le;change -400000000<=cell m C i k/\cell m C i k<=400000000 at y;change -400000000<=cell m C p k/\cell m C p k<=400000000 at z;have ad:i*C+k≠p*C+k:=fun e=>hip (Zb5 hlt hlt e).1;have hO9:=((hO.set (i*C+k) (Yv Yi (cell m C p k))).set (p*C+k) (Yv Yi (cell m C i k)));rw[←ints_set, ←ints_set] at hO9;have Hu:=hid (show swN m C i p (k+1)=((swN m C i p k).set (i*C+k) (cell m C p k)).set (p*C+k) (cell m C i k) from rfl);have A:=hO.free (p*C+k);clear hO r s o;generalize cell m C i k=ca at v y hO9 Hu;generalize cell m C p k=cb at x z hO9 Hu;generalize G:i*C+k=P at *;generalize H:p*C+k=S at *;have ae:P<n:=I;have af:S<n:=I;clear G H;simp only at v x F A hO9;have n1:d≠w.heap.size:=fun e=>N ξ;have n2:d≠w.heap.size+1:=fun e=>O ξ;have n3:=Ne.symm n1;have n4:=Ne.symm n2;go_wp2;have J:Keep (fun q=>blk (some (⟨d,0,none⟩:Addr))≠some q) wr ((wr.setCell ⟨d,P,none⟩ (Yv Yi cb)).setCell ⟨d,S,none⟩ (Yv Yi ca)):=kS;go_roundw;case rel=>exact ⟨hK.trans J,k+1,I,Δ,Ei⟩
   case measure=>exact FN
  ·have L:k=C:=I;subst L;go_wp2;exact G9
structure Two (w:World) (a u:Option Addr) (na nu ca cu:Nat) (s:HS):Prop where
 oa:Own w 3 1 a na ca (ints s.1)
 ou:Own w 3 1 u nu cu (ints s.2)
 ne: ∀ q,blk a=some q->blk u≠some q
theorem Two.keep (h:Two w a u na nu ca cu s) (hk:Keep T w w') (h1: ∀ g,blk a=some g->T g) (h2: ∀ g,blk u=some g->T g):Two w' a u na nu ca cu s:=
 ⟨h.oa.keep hk (fun g b _=>h1 g b),h.ou.keep hk (fun g b _=>h2 g b),h.ne⟩
theorem Two.grow (h:Two w a u na nu ca cu s) (hk:Grow w w'):Two w' a u na nu ca cu s:=h.keep hk (fun _ _=>trivial) (fun _ _=>trivial)
theorem ZjZ (a u:Option Addr) (na nu ca cu:Nat) (R C R' C' kd i p t:Int) (s:HS) (fa fu:List Int) (w:World) (h:Two w a u na nu ca cu s)
  (h1: ∀ w,Own w 3 1 a na ca (ints s.1)->Calls JG 256 #[.agg #[Yv Yi R,Yv Yi C, .slice a na ca], .agg #[Yv Yi kd,Yv Yi i,Yv Yi p,Yv Yi t]] w fun e w'=>e= .returned (.tuple #[])/\Own w' 3 1 a na ca (ints fa)/\Keep (fun q=>blk a≠some q) w w')
  (h2: ∀ w,Own w 3 1 u nu cu (ints s.2)->Calls JG 256 #[.agg #[Yv Yi R',Yv Yi C', .slice u nu cu], .agg #[Yv Yi kd,Yv Yi i,Yv Yi p,Yv Yi t]] w fun e w'=>e= .returned (.tuple #[])/\Own w' 3 1 u nu cu (ints fu)/\Keep (fun q=>blk u≠some q) w w'):
  Calls JG 201 #[.agg #[Yv Yi R,Yv Yi C, .slice a na ca], .agg #[Yv Yi R',Yv Yi C', .slice u nu cu], .agg #[Yv Yi kd,Yv Yi i,Yv Yi p,Yv Yi t]] w fun e w'=>e= .returned (.tuple #[])/\Two w' a u na nu ca cu (fa,fu)/\Keep (fun q=>blk a≠some q/\blk u≠some q) w w':=by
 obtain ⟨A,d,f, -,B, -, -⟩:=al3 w #[Yv Yi R,Yv Yi C, .slice a na ca] 37 #[Yv Yi R',Yv Yi C', .slice u nu cu] 37 #[Yv Yi kd,Yv Yi i,Yv Yi p,Yv Yi t] 169;have D:Blk A (w.heap.size+2) #[Yv Yi kd,Yv Yi i,Yv Yi p,Yv Yi t] 169:=by rw[d];exact Blk.newAt _ _ _ Θ
 have k:=hid d;clear d;have z:=h.grow f;have l:blk a≠some (w.heap.size+1):=fun e=>CG
 have m:blk a≠some (w.heap.size+2):=fun e=>CG
 go_enter func201,ntmps201;go_wp2_with fail;rw[←k.out];refine (h1 _ z.oa).mono ?_;rintro e J ⟨rfl,n,b⟩;have o:=B.keep b l;have c:=D.keep b m;obtain ⟨⟨L,M,N⟩, -⟩:=o.three;have E:=c.cell 0;have F:=c.cell 1;have G:=c.cell 2;have H:=c.cell 3;simp only[Kt,Ku,Kx] at E F G H;have r:=z.ou.keep b (fun g v _ e=>h.ne g e v);go_wp2_with fail;refine (h2 _ r).mono ?_;rintro e O ⟨rfl,x,j⟩;go_wp2;refine bodyPost_end (results_none rfl _ _ _) rfl ⟨rfl,⟨n.keep j (fun g v _ e=>h.ne g v e),x,h.ne⟩, ?_⟩;exact ((f.any).trans (b.mono (fun q _ y=>y.1))).trans (j.mono (fun q _ y=>y.2))
theorem Zal {n:Nat} (hn:n=R*C) (hi:i<R):i*C+C<=n:=by
 subst hn;exact I4
theorem ZhF (a u:Option Addr) (ca cu R C i p:Nat) (t:Int) (s:HS) (w:World) (h:Two w a u (R*C) (R*R) ca cu s) (hs:Hm C R s) (hi:i<R) (hp:p<R) (hip:i≠p) (ht:NumS t) (hR:R<=24) (hC:C<=24):
  Calls JG 201 #[.agg #[Yv Yi R,Yv Yi C, .slice a (R*C) ca], .agg #[Yv Yi R,Yv Yi R, .slice u (R*R) cu], .agg #[Yv Yi 2,Yv Yi i,Yv Yi p,Yv Yi t]] w fun e w'=>e= .returned (.tuple #[])/\Two w' a u (R*C) (R*R) ca cu (Zfr C R i p t s)/\Keep (fun q=>blk a≠some q/\blk u≠some q) w w':=by
 have c:R*C<=24*24:=JL hR hC;have d:R*R<=24*24:=JL hR hR
 exact ZjZ a u _ _ ca cu R C R R 2 i p t s _ _ w h (fun w b=>Zpp a _ ca C i p R t s.1 w b (Zal rfl hi) (Zal rfl hp) hip hs.na ht I I I I)
  (fun w b=>Zpp u _ cu R i p R t s.2 w b (Zal rfl hi) (Zal rfl hp) hip hs.nu ht I I I I)
theorem Zof (a u:Option Addr) (ca cu R C i:Nat) (s:HS) (w:World) (h:Two w a u (R*C) (R*R) ca cu s) (hs:Hs C R s) (hi:i<R) (hR:R<=24) (hC:C<=24):
  Calls JG 201 #[.agg #[Yv Yi R,Yv Yi C, .slice a (R*C) ca], .agg #[Yv Yi R,Yv Yi R, .slice u (R*R) cu], .agg #[Yv Yi 1,Yv Yi i,Yv Yi i,Yv Yi 0]] w fun e w'=>e= .returned (.tuple #[])/\Two w' a u (R*C) (R*R) ca cu (ZeQ C R i s)/\Keep (fun q=>blk a≠some q/\blk u≠some q) w w':=by
 have c:R*C<=24*24:=JL hR hC;have d:R*R<=24*24:=JL hR hR
 exact ZjZ a u _ _ ca cu R C R R 1 i i 0 s _ _ w h (fun w b=>Zp0 a _ ca C i R 0 s.1 w b (Zal rfl hi) hs.na I I I)
  (fun w b=>Zp0 u _ cu R i R 0 s.2 w b (Zal rfl hi) hs.nu I I I)
theorem ZiE (a u:Option Addr) (ca cu R C i p:Nat) (s:HS) (w:World) (h:Two w a u (R*C) (R*R) ca cu s) (hs:Hs C R s) (hi:i<R) (hp:p<R) (hip:i≠p) (hR:R<=24) (hC:C<=24):
  Calls JG 201 #[.agg #[Yv Yi R,Yv Yi C, .slice a (R*C) ca], .agg #[Yv Yi R,Yv Yi R, .slice u (R*R) cu], .agg #[Yv Yi 0,Yv Yi i,Yv Yi p,Yv Yi 0]] w fun e w'=>e= .returned (.tuple #[])/\Two w' a u (R*C) (R*R) ca cu (sw2 C R i p s)/\Keep (fun q=>blk a≠some q/\blk u≠some q) w w':=by
 have c:R*C<=24*24:=JL hR hC;have d:R*R<=24*24:=JL hR hR
 exact ZjZ a u _ _ ca cu R C R R 0 i p 0 s _ _ w h (fun w b=>Zox a _ ca C i p R 0 s.1 w b hs.la hi hp hip hs.na I I I I)
  (fun w b=>Zox u _ cu R i p R 0 s.2 w b hs.lu hi hp hip hs.nu I I I I)
theorem ZkB (a:Option Addr) (n cp C R t j:Nat) (cells:List Int) (w:World) (h:RdI w S a n cp cells) (hl:cells.length=R*C) (hn:NumL cells) (ht:t<=R) (hj:j<C) (hR:R<=24) (hC:C<=24):
  Calls JG 198 #[.agg #[Yv Yi R,Yv Yi C, .slice a n cp],Yv Yi t,Yv Yi j] w fun e w'=>e= .returned (Yv Yi (Zr cells C j t (R-t)))/\Grow w w':=by
 have z:=h.len;obtain ⟨Y,A,B,Z, -⟩:=al1 w #[Yv Yi (R:Int),Yv Yi (C:Int), .slice a n cp] 37;have J:=hid A;clear A;have X:=hid hl;have D:=hid z;clear hl z;replace h:=h.grow B;go_enter func198,ntmps198;go_wp2;rw[←J.out];go_loopw [7,8] (fun b q wr=>Grow Y wr/\ ∃ k:Nat,k<=R-t/\q=Yv Yi ((t+k:Nat):Int)/\b=Yv Yi (Zr cells C j t k)) (fun _ q _=>R-(intOf q).toNat);case atStart=>exact ⟨JH _,0,JI _,rfl,rfl⟩
 case round=>
  obtain ⟨E,k,hk,rfl,rfl⟩:=hrel;have m:=Z.grow E;have H:=h.grow E;obtain ⟨⟨a0,a1,a2⟩, -⟩:=m.three;have F:=m.lt;have M:=Zc6 cells C j t k;by_cases N:t+k<R
  ·have r:=Zf (i:=t+k) hj N;have G:(t+k)*C+j<n:=(by rw[←D.out,X.out];exact r);have hx:=Zk hn C (t+k) j;have c:=hid (show Zr cells C j t (k+1)=if cell cells C (t+k) j≠0/\(Zr cells C j t k<0\/(cell cells C (t+k) j).natAbs<(cell cells C (Zr cells C j t k).toNat j).natAbs) then ((t+k:Nat):Int) else Zr cells C j t k from rfl);clear r;go_wp2_with fail;refine (ZO a n cp C (t+k) j (R:Int) cells _ H G I I I).mono ?_;rintro e w3 ⟨rfl,o⟩;clear G;replace H:=H.grow o;replace m:=m.grow o;have g:=E.trans o;clear a0 a1 a2 F E o;generalize O:cell cells C (t+k) j=x at *;clear O;by_cases hx0:x=0
   ·have HL:=hid (show Zr cells C j t (k+1)=Zr cells C j t k by rw[c.out,if_neg (by simp[hx0])]);subst hx0;have f:=g.drew;clear c;generalize Zr cells C j t k=L at *;go_wp2;refine ZaH [([0,1,2,3,4,5,6,8,9,10],some 7),([],some 11),([],some 12),([13,14,15],none)] ?_;refine Zh ?_;refine Zdz rfl ((JH _).drew) ?_;refine Zh ?_;refine Zdz rfl ((JH _).drew) ?_;refine Zh ?_;refine Zdz rfl ((JH _).drew) ?_;refine Zh ?_;refine Ze ?_;go_wp2;go_roundw;case rel=>exact ⟨f,k+1,I,Δ,ζ⟩
    case measure=>exact FN
   ·have q1:(x !=0)=true:=Bv;rcases M with ⟨s,_⟩|⟨p,s,r,aa,P,_⟩
    ·have HL:=hid (show Zr cells C j t (k+1)=((t+k:Nat):Int) by rw[c.out,if_pos ⟨hx0, .inl I⟩]);have f:=g.drew;clear c;rw[s];clear s;go_wp2;refine ZaH [([0,1,2,3,4,5,6,8,9,10],some 7),([],some 11),([],some 12),([13,14,15],none)] ?_;refine Zh ?_;refine Zdz rfl ((JH _).drew) ?_;refine Zh ?_;refine Zdz rfl ((JH _).drew) ?_;refine Zh ?_;refine Zdz rfl ((JH _).drew) ?_;refine Zh ?_;refine Ze ?_;go_wp2;go_roundw;case rel=>exact ⟨f,k+1,I,Δ,ζ⟩
     case measure=>exact FN
    ·have T:p*C+j<n:=(by rw[←D.out,X.out];exact Zf hj I);have hy:=Zk hn C p j;have d:=hid (show Zr cells C j t (k+1)=if x.natAbs<(cell cells C p j).natAbs then ((t+k:Nat):Int) else (p:Int) by
      rw[c.out,s,Int.toNat_natCast];by_cases v:x.natAbs<(cell cells C p j).natAbs
      ·rw[if_pos ⟨hx0, .inr v⟩,if_pos v]
      ·rw[if_neg EQ,if_neg v])
     rw[s];have q2:decide ((p:Int)<0)=false:=decide_eq_false I;clear s c P;go_wp2;refine ZaH [([0,1,2,3,4,5,6,8,9,10],some 7),([],some 11),([],some 12),([13,14,15],none)] ?_;refine ZR ?_;intro K hK;refine (Zeu x _ I).mono ?_;rintro e _ ⟨rfl,rfl⟩;go_wp2_with fail;refine hK _ _ ((JH _).drew) ?_;clear hK K;refine ZR ?_;intro K hK;refine (ZO a n cp C p j (R:Int) cells _ (H.grow (JH _).drew) T I I I).mono ?_;rintro e w4 ⟨rfl,V⟩;have l:=(JH w3).drew.trans V;generalize cell cells C p j=y at *;go_wp2_with fail;refine hK _ _ (l) ?_;clear hK K;refine ZR ?_;intro K hK;refine (Zeu y _ I).mono ?_;rintro e _ ⟨rfl,rfl⟩;go_wp2_with fail;refine hK _ _ (l) ?_;clear hK K;refine Zh ?_;refine Ze ?_;have f:=g.trans l;by_cases v:x.natAbs<y.natAbs
     ·have HL:=hid (show Zr cells C j t (k+1)=((t+k:Nat):Int) by rw[d.out,if_pos v]);clear d;go_wp2;go_roundw;case rel=>exact ⟨f,k+1,I,Δ,ζ⟩
      case measure=>exact FN
     ·have HL:=hid (show Zr cells C j t (k+1)=(p:Int) by rw[d.out,if_neg v]);clear d;go_wp2;go_roundw;case rel=>exact ⟨f,k+1,I,Δ,ζ⟩
      case measure=>exact FN
  ·have W:k=R-t:=I;go_wp2;go_ret;exact ⟨by rw[W];rfl,B.trans E⟩
theorem Zmg {m:List Int} {p t:Nat} (h1:t<=i) (h2:i<R) (h3:i≠p) (h4:cell m C i j≠0):ZaW m C R j p t=false:=by
 rw[Bool.eq_false_iff];intro e;exact h4 (Zey.1 e i h1 h2 h3)
theorem Zqw (a:Option Addr) (n cp C R t j p:Nat) (cells:List Int) (w:World) (h:RdI w S a n cp cells) (hl:cells.length=R*C) (hn:NumL cells) (ht:t<=R) (hj:j<C) (hR:R<=24) (hC:C<=24) (_hp:p<=24):
  Calls JG 199 #[.agg #[Yv Yi R,Yv Yi C, .slice a n cp],Yv Yi t,Yv Yi j,Yv Yi p] w fun e w'=>e= .returned (.bool (ZaW cells C R j p t))/\Grow w w':=by
 have g:=h.len;obtain ⟨z,l,f,A, -⟩:=al1 w #[Yv Yi (R:Int),Yv Yi (C:Int), .slice a n cp] 37;have v:=hid l;clear l;have B:=hid hl;have x:=hid g;clear hl g;replace h:=h.grow f;go_enter func199,ntmps199;go_wp2;rw[←v.out];go_loopw [9] (fun q wr=>Grow z wr/\ ∃ k:Nat,k<=R-t/\q=Yv Yi ((t+k:Nat):Int)/\ ∀ d,d<k->t+d≠p->cell cells C (t+d) j=0) (fun q _=>R-(intOf q).toNat);case atStart=>exact ⟨JH _,0,JI _,rfl,fun d hd=>I⟩
 case round=>
  obtain ⟨hG,k,H,rfl,c⟩:=hrel;have Hall:=hid c;clear c;have m:=A.grow hG;have D:=h.grow hG;obtain ⟨⟨J,L,M⟩, -⟩:=m.three;have y:=m.lt;by_cases o:t+k<R
  ·by_cases b:t+k=p
   ·have E:((((t+k:Nat):Int))!=(p:Int))=false:=(by rw[b];simp);have F:(((t:Int)+(k:Int))!=(p:Int))=false:=(by rw[←b];simp);have Hkp:=hid b;clear b;go_wp2;go_roundw;case rel=>
     exact IM
    case measure=>exact FN
   ·have E:((((t+k:Nat):Int))!=(p:Int))=true:=Ψ;have F:(((t:Int)+(k:Int))!=(p:Int))=true:=Ψ;have r:=Zf (i:=t+k) hj o;have s:(t+k)*C+j<n:=(by rw[←x.out,B.out];exact r);have N:=Zk hn C (t+k) j;have Hkp:=hid b;clear b r;go_wp2_with fail;refine (ZO a n cp C (t+k) j (R:Int) cells _ D s I I I).mono ?_;rintro e O ⟨rfl,hG3⟩;clear s;by_cases hx0:cell cells C (t+k) j=0
    ·have Hx0:=hid hx0;rw[hx0];clear hx0;go_wp2;go_roundw;case rel=>
      exact IP
     case measure=>exact FN
    ·have HF:=hid (Zmg (R:=R) (p:=p) (t:=t) I o Hkp.out hx0);have P:(cell cells C (t+k) j !=0)=true:=Bv;go_wp2;go_ret;exact ⟨Dp,(f.trans hG).trans hG3⟩
  ·have HF:=hid (show ZaW cells C R j p t=true from Zey.2 fun i T V G=>by
    have:=Hall.out (i-t) I;rw[show t+(i-t)=i by omega] at this;exact this G)
   go_wp2;go_ret;exact ⟨Dp,f.trans hG⟩

end Go.Proofs.YtgjefeiddfjjnaaGreatDoor
