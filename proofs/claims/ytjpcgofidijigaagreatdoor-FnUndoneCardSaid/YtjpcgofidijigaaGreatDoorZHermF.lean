/- The reference's numbers with marks: sums, products, quotients; cells; whether a mark is in a list. -/
import Derived.Test.YtjpcgofidijigaaGreatDoorZHerm
set_option maxHeartbeats 8000000
set_option maxRecDepth 100000
namespace Go.Proofs.YtjpcgofidijigaaGreatDoor
open Go.RowKit
open Lib (hid)
open Go.Value renaming int->Yv
open Go.IntKind renaming i64->Yi
variable {C R ca cu i j na nu p t:Nat} {S T:Nat->Prop} {a u:Option Addr} {d n:Int} {l xs:List Int} {m:Mat} {res:Option HS} {rest rest':HS->Option HS} {s:HS} {w w':World}
theorem ZpZ (hd:d≠0) (h:n.tmod d<0):n.tdiv d=n/d+d.sign/\n.tmod d+d.natAbs=n%d:=by
 have h1:=Int.tdiv_eq_ediv (a:=n) (b:=d);have h2:=Int.tmod_eq_emod (a:=n) (b:=d);have h3:=Int.emod_nonneg n hd;by_cases hc:0<=n\/d∣n
 ·rw[if_pos hc] at h2;omega
 ·rw[if_neg hc] at h1 h2;omega
theorem Zqk (hd:d≠0) (h:0<=n.tmod d):n.tdiv d=n/d/\n.tmod d=n%d:=by
 have h1:=Int.tdiv_eq_ediv (a:=n) (b:=d);have h2:=Int.tmod_eq_emod (a:=n) (b:=d);have h3:=Int.emod_lt n hd;by_cases hc:0<=n\/d∣n
 ·rw[if_pos hc] at h1 h2;omega
 ·rw[if_neg hc] at h2;omega
theorem ZoX (hd:d≠0):(n-n%d).tdiv d=n/d:=by
 have h:n-n%d=d*(n/d):=by have:=Int.emod_def n d;omega
 rw[h,Int.mul_tdiv_cancel_left _ hd]
theorem Zpn {a b c:Int} (h1:a=b) (h2:c=d):Ending.returned (.tuple #[Yv Yi a,Yv Yi c, .bool true])= .returned (.tuple #[Yv Yi b,Yv Yi d, .bool true]):=by rw[h1,h2]
theorem Zdb (a:Int) (w:World) (h: -9223372036854775807<=a/\a<=9223372036854775807):Calls Tryz.prog 143 #[Yv Yi a] w fun e w'=>e= .returned (Yv Yi (a.natAbs:Int))/\w=w':=by
 go_enter Tryz.func143,Tryz.ntmps143;go_wp2;all_goals (go_ret;exact ⟨ZU (by omega),rfl⟩)
theorem ZcK (n d:Int) (w:World) (hn: -400000000<=n/\n<=400000000) (hd: -400000000<=d/\d<=400000000) (h0:d≠0):Calls Tryz.prog 147 #[Yv Yi n,Yv Yi d] w fun e w'=>e= .returned (.tuple #[Yv Yi (n/d),Yv Yi (n%d), .bool true])/\w=w':=by
 have H:=hid (ZI.2 hn);have H2:=hid (ZI.2 hd);have e0:(d==0)=false:=by simpa using h0
 have hq:=ZfL (n:=n) (d:=d) hn h0;have hm1:=Int.emod_nonneg n h0;have hm2:=Int.emod_lt n h0;have HQ:=hid (ZoX (n:=n) h0);by_cases h:n.tmod d<0
 ·have h1:=(ZpZ h0 h).2;go_enter Tryz.func147,Tryz.ntmps147;go_wp2_with fail;refine (ZQ _ _).mono ?_;rintro e w' ⟨rfl,rfl⟩;rw[H.out];go_wp2_with fail;refine (ZQ _ _).mono ?_;rintro e w' ⟨rfl,rfl⟩;rw[H2.out];go_wp2_with fail;refine (Zdb _ _ (by omega)).mono ?_;rintro e w' ⟨rfl,rfl⟩;have H1:=hid h1;clear h1;go_wp2
  go_ret3
  have k1:wrap64 (n.tmod d+ ↑d.natAbs)=n%d:=by rw[H1.out];unfold wrap64;omega
  have k2:wrap64 (n-n%d)=n-n%d:=by unfold wrap64;omega
  have k3:wrap64 (n/d)=n/d:=by unfold wrap64;omega
  exact ⟨Zpn (by first |rw[k1,k2,HQ.out,k3]|rw[H1.out,k2,HQ.out,k3]) (by first |exact k1|exact H1.out),rfl⟩
 ·have h1:=(Zqk (n:=n) (d:=d) h0 (by omega)).2;have H1:=hid h1;clear h1;go_enter Tryz.func147,Tryz.ntmps147;go_wp2_with fail;refine (ZQ _ _).mono ?_;rintro e w' ⟨rfl,rfl⟩;rw[H.out];go_wp2_with fail;refine (ZQ _ _).mono ?_;rintro e w' ⟨rfl,rfl⟩;rw[H2.out];go_wp2
  go_ret3
  have k2:wrap64 (n-n%d)=n-n%d:=by unfold wrap64;omega
  have k3:wrap64 (n/d)=n/d:=by unfold wrap64;omega
  exact ⟨Zpn (by rw[H1.out,k2,HQ.out,k3]) H1.out,rfl⟩
theorem Zbg {x:Int} (hj:j<xs.length) (hx:xs.getD j 0=x):(ints xs)[j]? =some (Yv Yi x):=by
 rw[List.getElem?_map,List.getElem?_eq_getElem hj];simp[List.getD,List.getElem?_eq_getElem hj] at hx;rw[←hx];rfl
theorem Keep.on {a b c:World} (h:Keep S a b) (k:Keep T b c) (hT: ∀ i,i<a.heap.size->S i->T i):Keep S a c:=
 ⟨k.os.trans h.os, k.tape.trans h.tape, k.output.trans h.output, Nat.le_trans h.size k.size, fun x hx => (k.frozen x (Nat.lt_of_lt_of_le hx h.size)).trans (h.frozen x hx),
  fun i hi hs=>(k.block i (Nat.lt_of_lt_of_le hi h.size) (hT i hi hs)).trans (h.block i hi hs)⟩
structure Two (w:World) (a u:Option Addr) (na nu ca cu:Nat) (s:HS):Prop where
 oa:Own w 3 1 a na ca (ints s.1)
 ou:Own w 3 1 u nu cu (ints s.2)
 ne: ∀ q,blk a=some q->blk u≠some q
theorem Two.keep (h:Two w a u na nu ca cu s) (hk:Keep T w w') (h1: ∀ g,blk a=some g->T g) (h2: ∀ g,blk u=some g->T g):Two w' a u na nu ca cu s:=
 ⟨h.oa.keep hk (fun g hg _=>h1 g hg),h.ou.keep hk (fun g hg _=>h2 g hg),h.ne⟩
theorem Two.grow (h:Two w a u na nu ca cu s) (hk:Grow w w'):Two w' a u na nu ca cu s:=h.keep hk (fun _ _=>trivial) (fun _ _=>trivial)
theorem ZaJ {n:Nat} (hn:n=R*C) (hi:i<R):i*C+C<=n:=by
 subst hn;have:(i+1)*C<=R*C:=Nat.mul_le_mul_right _ hi;rw[Nat.add_mul] at this;omega
theorem Zpe {m:List Int} (h1:t<=i) (h2:i<R) (h3:i≠p) (h4:cell m C i j≠0):ZaS m C R j p t=false:=by
 rw[Bool.eq_false_iff];intro e;exact h4 (ZeB.1 e i h1 h2 h3)
def rdL (w:World) (a:Option Addr) (n:Nat):List Int:=(List.range n).map fun k=>match a with
 |some p=>(match w.cell? ⟨p.block,k,none⟩ with |some (.int _ z)=>z|_=>0)
 |none=>0
theorem Zjp {e:TypeId} {n cap:Nat} (h:Own w e 1 a n cap (ints xs)):rdL w a n=xs:=by
 have hl:xs.length=n:=by simpa using h.len
 refine List.ext_getElem? fun k=> ?_;unfold rdL;rw[List.getElem?_map];rcases Nat.lt_or_ge k n with hk|hk
 ·rw[List.getElem?_range hk,List.getElem?_eq_getElem (by omega)];cases a with
  |none=>have:=h.nil rfl;have:=h.le;omega
  |some p=>have hc:=h.cell (j:=k) (c:=Yv Yi xs[k]) (by rw[List.getElem?_map,List.getElem?_eq_getElem (by omega)];rfl);simp[hc]
 ·rw[List.getElem?_eq_none (by simp;omega),List.getElem?_eq_none (by omega)];rfl
def Mid (C R:Nat) (rest:HS->Option HS) (res:Option HS) (d:Int) (p j:Nat) (s:HS):Prop:=(Hs C R s/\rest s=res/\cell s.1 C p j=d)\/(res=none/\Mk s)
theorem Mid.add {q:Int} (hm:Hm C R s) (h:Mid C R rest res d p j s) (hi:i<R) (hj:j<C) (hip:p≠i) (hd:d≠0) (_hdn: -400000000<=d/\d<=400000000) (hq: -400000000<=q/\q<=400000000)
  (he:Zl (cell s.1 C i j)=true->Zl (cell s.1 C p j)=true->cell s.1 C p j≠0->q=cell s.1 C i j/cell s.1 C p j)
  (hr:Hs C R s->rest s=(Zb8 C R i p (-(cell s.1 C i j/cell s.1 C p j)) s).bind rest'):Mid C R rest' res d p j (ZiO C R i p (-q) s):=by
 rcases h with ⟨hs,h1,h2⟩|⟨h1,h2⟩
 ·have hq2:=he (ZI.2 (Zo hs.na C i j)) (ZI.2 (Zo hs.na C p j)) (by rw[h2];exact hd);have h3:=hr hs;rw[←hq2] at h3;rcases ZmJ hs hi (t:= -q) (p:=p) (by omega) with h4|⟨h4,h5⟩
  ·rw[h4] at h3;obtain ⟨g1,g2⟩:=ZfO hs h4;refine .inl ⟨g1,by rw[←h1,h3];rfl, ?_⟩;rw[g2];show cell (addR s.1 C i p (-q)) C p j=d;rw[Za8 hs.la hi hj,if_neg hip];exact h2
  ·rw[h4] at h3;exact .inr ⟨by rw[←h1,h3];rfl,h5⟩
 ·exact .inr ⟨h1,ZqC hm hi h2⟩
theorem Zy (h:NumL l): ∀ x∈l,I64 x:=fun x hx=>by have:=h x hx;unfold I64;omega
theorem Mid.skip (h:Mid C R rest res d p j s) (hr:rest s=rest' s):Mid C R rest' res d p j s:=by
 rcases h with ⟨hs,h1,h2⟩|h
 ·exact .inl ⟨hs,by rw[←hr];exact h1,h2⟩
 ·exact .inr h
theorem Zro (h:i<t) (s:HS):red C R j t (t-i) i s=(Zb8 C R i t (-(cell s.1 C i j/cell s.1 C t j)) s).bind (red C R j t (t-(i+1)) (i+1)):=by
 rw[show t-i=(t-(i+1))+1 by omega];rfl
theorem ZqD (h:i<R) (s:HS):pass C R j p (R-i) i s=if i≠p/\cell s.1 C i j≠0 then (Zb8 C R i p (-(cell s.1 C i j/cell s.1 C p j)) s).bind (pass C R j p (R-(i+1)) (i+1)) else pass C R j p (R-(i+1)) (i+1) s:=by
 rw[show R-i=(R-(i+1))+1 by omega];rfl
def idN (n k:Nat):List Int:=(List.range k).foldl (fun l i=>l.set (i*n+i) 1) (List.replicate (n*n) 0)
theorem Zqa (n k:Nat):idN n (k+1)=(idN n k).set (k*n+k) 1:=by unfold idN;rw[List.range_succ,List.foldl_append];rfl
def Zbs (m:Mat):Option HS:=if Ze m=true then Zb7 m.cells m.rows.toNat m.cols.toNat else none
def Zhb (m:Mat):Bool:=(Zbs m).isSome
def ZkX (m:Mat):Mat:=match Zbs m with |some s=>{rows:=m.rows,cols:=m.cols,cells:=s.1}|none=>{rows:=0,cols:=0,cells:=[]}
def ZkW (m:Mat):Mat:=match Zbs m with |some s=>{rows:=m.rows,cols:=m.rows,cells:=s.2}|none=>{rows:=0,cols:=0,cells:=[]}
theorem ZnP (h:Zbs m=none):Zhb m=false/\ZkX m={rows:=0,cols:=0,cells:=[]}/\ZkW m={rows:=0,cols:=0,cells:=[]}:=by
 unfold Zhb ZkX ZkW;rw[h];exact ⟨rfl,rfl,rfl⟩
theorem Znm (h:Zbs m=some s):Zhb m=true/\ZkX m={rows:=m.rows,cols:=m.cols,cells:=s.1}/\ZkW m={rows:=m.rows,cols:=m.rows,cells:=s.2}:=by
 unfold Zhb ZkX ZkW;rw[h];exact ⟨rfl,rfl,rfl⟩
theorem Za9 (hR:R<=24) (hC:C<=24) (hl:l.length=R*C) (h:NumL l):Ze {rows:=R,cols:=C,cells:=l}=true:=by
 unfold Ze Zbf;rw[show Zdp l=true from List.all_eq_true.2 fun x hx=>ZI.2 (h x hx),Bool.and_true,decide_eq_true_eq];exact ⟨by simp,by simp;omega,by simp,by simp;omega,by simp[hl]⟩
theorem VM.zero:VM w S (.agg #[Yv Yi 0,Yv Yi 0, .slice none 0 0]) {rows:=0,cols:=0,cells:=[]}:=
 ⟨none,0,0,rfl,⟨⟨rfl,Nat.le_refl _,by unfold maxLen;omega,fun _=>rfl,fun h=>(h rfl).elim⟩,fun x hx=>by cases hx⟩,by show I64 0;unfold I64;omega,by show I64 0;unfold I64;omega⟩
theorem Z5 {P:Program} {fn:Func} {R:Ending->World->Prop} {a:Act} {ty:TypeId} {cs ds:Array Value} {p q u:Tmp} {g g':Nat} {t:TypeId} (hT:StT P ty cs.size) (hT':StT P ty ds.size) (h:fn.results= #[.cell p ty, .cell q ty, .tmp u]) (hd:a.defers=[]) (hp:a.tmps.getD p undef= .pointer (some ⟨g,0,none⟩)) (hq:a.tmps.getD q undef= .pointer (some ⟨g',0,none⟩))
  (hb:Blk w g cs t) (hb':Blk w g' ds t) (hR:R (.returned (.tuple #[.agg cs, .agg ds,a.tmps.getD u undef])) w):bodyPost P fn R .ret a w:=by
 have hp':a.tmps[p]?.getD undef= .pointer (some ⟨g,0,none⟩):=by simpa using hp
 have hq':a.tmps[q]?.getD undef= .pointer (some ⟨g',0,none⟩):=by simpa using hq
 refine bodyPost_ret (v:= .tuple #[.agg cs, .agg ds,a.tmps.getD u undef]) ?_ hd hR;simp[results,h,hp',hq',asAddr,hT.load hb,hT'.load hb']
theorem addr_add (g j:Nat):(⟨g,0,none⟩:Addr).add j=⟨g,j,none⟩:=by unfold Addr.add;split<;>simp_all
theorem ZeA (a:Option Addr) (n cp C i:Nat) (R:Int) (m:List Int) (w:World) (h:Own w 3 1 a n cp (ints m)) (hi:i*C+C<=n) (hi2:i<=1048575) (hC2:C<=1048576):
  Calls Tryz.prog 72 #[.agg #[Yv Yi R,Yv Yi C, .slice a n cp],Yv Yi i] w fun e w'=> ∃ a1,e= .returned (.slice a1 C (cp-i*C))/\(0<C-> ∃ pb,a=some ⟨pb,0,none⟩/\a1=some ⟨pb,i*C,none⟩)/\Grow w w':=by
 have hle:=h.le;have u1:=ZdU (i:=i) (c:=C) (by omega) hC2;have u3:IntKind.i64.wrap (((i:Int)+1)*C)=((i:Int)+1)*C:=by have:=ZdU (i:=i+1) (c:=C) (by omega) hC2;simpa using this
 have r:=T_ints.atLH (a:=a) (n:=n) (cap:=cp) (l:=i*C) (k:=i*C+C) (i:=(i:Int)*C) (j:=((i:Int)+1)*C) (by simp) (by rw[Int.add_mul];simp) (by omega) (by omega);rw[show i*C+C-i*C=C by omega] at r;have hA:0<C-> ∃ pb,a=some ⟨pb,0,none⟩/\ZcQ a cp (i*C) 1=some ⟨pb,i*C,none⟩:=fun hC=>by
  cases a with
  |none=>have:=h.nil rfl;omega
  |some q=>have hq:=(h.block q rfl).1;refine ⟨q.block,by rw[←hq], ?_⟩;unfold ZcQ;rw[if_neg (by omega),hq,Nat.mul_one];exact congrArg some (addr_add q.block (i*C))
 have HA:=hid hA;clear hA;go_enter Tryz.func72,Tryz.ntmps72;go_wp2;go_ret;exact ⟨_,rfl,HA.out,(Grow.refl w).alloc _ _⟩
theorem Zbq (a:Option Addr) (n cp C i p:Nat) (R t:Int) (m:List Int) (w:World) (h:Own w 3 1 a n cp (ints m)) (hi:i*C+C<=n) (hp:p*C+C<=n) (hip:i≠p) (hm:NumL m) (ht: -400000000<=t/\t<=400000000) (hi2:i<=1000) (hp2:p<=1000) (hC2:C<=1048576):
  Calls Tryz.prog 107 #[.agg #[Yv Yi R,Yv Yi C, .slice a n cp], .agg #[Yv Yi 2,Yv Yi i,Yv Yi p,Yv Yi t]] w fun e w'=> ∃ m',e= .returned (.bool (Z8 m C i p t))/\Own w' 3 1 a n cp (ints m')/\Keep (fun q=>blk a≠some q) w w'/\(Z8 m C i p t=true->m'=addR m C i p t):=by
 obtain ⟨kd,hkd⟩: ∃ kd:Int,kd=2:=⟨_,rfl⟩;rw[←hkd];have hl:m.length=n:=by simpa using h.len
 obtain ⟨w2,hw2,hG2,bM,bX, -⟩:=al2 w #[Yv Yi R,Yv Yi (C:Int), .slice a n cp] 34 #[Yv Yi kd,Yv Yi (i:Int),Yv Yi (p:Int),Yv Yi t] 148;have hO0:Own w2 3 1 a n cp (ints m):=h.grow hG2;have nX:blk a≠some (w.heap.size+1):=fun e=>by have:=h.lt e;omega
 have Hw2:=hid hw2;clear hw2;have hlow: ∀ q,blk a=some q->q<w.heap.size:=fun q hq=>h.lt hq;clear h;subst hkd;go_enter Tryz.func107,Tryz.ntmps107;go_wp2_with fail;rw[←Hw2.out];refine (ZeA a n cp C i R m _ hO0 hi (by omega) hC2).mono ?_;rintro e w3 ⟨a1,rfl,hA1,hG3⟩;have hO3:=hO0.grow hG3;have bX3:=bX.grow hG3;have bM3:=bM.grow hG3;obtain ⟨⟨m0,m1,m2⟩, -⟩:=bM3.three;have x0:=bX3.cell 0;have x1:=bX3.cell 1;have x2:=bX3.cell 2;have x3:=bX3.cell 3;simp only[List.getElem?_toArray,List.getElem?_cons_zero,List.getElem?_cons_succ] at x0 x1 x2 x3;go_wp2_with fail;refine (ZeA a n cp C p R m _ hO3 hp (by omega) hC2).mono ?_;rintro e w4 ⟨b1,rfl,hB1,hG4⟩;have hO4:=hO3.grow hG4;have bX4:=bX3.grow hG4;have hG24:=(hG2.trans hG3).trans hG4;clear x0 x1 x2 x3 m0 m1 m2 bM3 bX3 hO3 hO0 bM bX;go_wp2;go_loopw [19] (fun q wr=>Keep (fun q=>blk a≠some q) w4 wr/\ ∃ k:Nat,k<=C/\q=Yv Yi k/\Own wr 3 1 a n cp (ints (ZC (Za4 m C i p t) (i*C) k m))/\ ∀ k',k'<k->Zl (cell m C p k'*t)=true/\Zl (Za4 m C i p t k')=true) (fun q _=>C-(intOf q).toNat);case atStart=>exact ⟨Keep.refl _ _,0,Nat.zero_le _,rfl,hO4,fun k' h=>by omega⟩
 case round=>
  clear hO4;obtain ⟨hK,k,hk,rfl,hO,hall⟩:=hrel;have Hall:=hid hall;clear hall;by_cases hlt:k<C
  ·have bXr:=bX4.keep hK nX;have x0:=bXr.cell 0;have x3:=bXr.cell 3;simp only[List.getElem?_toArray,List.getElem?_cons_zero,List.getElem?_cons_succ] at x0 x3;have hltX:=bXr.lt;have hlen:(ZC (Za4 m C i p t) (i*C) k m).length=n:=(by rw[ZL,hl]);have hg1:(ZC (Za4 m C i p t) (i*C) k m).getD (i*C+k) 0=cell m C i k:=(by rw[Zbc (by omega),if_neg (by omega)];rfl);have hg2:(ZC (Za4 m C i p t) (i*C) k m).getD (p*C+k) 0=cell m C p k:=(by rw[Zbc (by omega),if_neg];rfl;rintro ⟨h1,h2⟩;have:=Zc5 (i:=i) (i':=p) (j:=p*C+k-i*C) (j':=k) (C:=C) (by omega) hlt (by omega);exact hip this.1);obtain ⟨pb,rfl,rfl⟩:=hA1 (by omega);obtain ⟨pb',hpb',rfl⟩:=hB1 (by omega);obtain rfl:pb=pb':=(by simpa using hpb');have hc1:=hO.cell (Zbg (by omega) hg1);have hc2:=hO.cell (Zbg (by omega) hg2);have hfr:=hO.free (i*C+k);have hpb:=hO.lt (g:=pb) rfl;have hsA:=Zo hm C i k;have hsB:=Zo hm C p k;have hmul:=ZfQ hsB ht;have hO9: ∀ N,Own ((wr.drewN N).setCell ⟨pb,i*C+k,none⟩ (Yv Yi (Za4 m C i p t k))) 3 1 (some ⟨pb,0,none⟩) n cp (ints (ZC (Za4 m C i p t) (i*C) (k+1) m)):=fun N=>(by have:=(hO.grow ((Grow.refl wr).drewN N)).set (i*C+k) (Yv Yi (Za4 m C i p t k));rw[←ints_set] at this;exact this);have hKs: ∀ N,Keep (fun q=>blk (some (⟨pb,0,none⟩:Addr))≠some q) wr ((wr.drewN N).setCell ⟨pb,i*C+k,none⟩ (Yv Yi (Za4 m C i p t k))):=fun N=>((Keep.refl _ wr).drewN N).setCell (p:=⟨pb,i*C+k,none⟩) (fun _ e=>e rfl) _;have Hv:=hid (show Za4 m C i p t k=cell m C i k+cell m C p k*t from rfl);have Hno:=hid (fun hno: ¬ (Zl (cell m C p k*t)=true/\Zl (Za4 m C i p t k)=true)=>(show Z8 m C i p t=false by
    rw[Bool.eq_false_iff];intro e;exact hno (Zcg.1 e k hlt)))
   clear hO hg1 hg2 hlen hA1 hB1 hpb';simp only at hc1 hc2 hfr;have u5:IntKind.i64.wrap (cell m C p k*t)=cell m C p k*t:=IntWalk.i64_in _ (by omega);have u6:wrap64 (cell m C p k*t)=cell m C p k*t:=(by unfold wrap64;omega);have u7:IntKind.i64.wrap (cell m C i k+cell m C p k*t)=cell m C i k+cell m C p k*t:=IntWalk.i64_in _ (by omega);generalize cell m C i k=ca at *;generalize hcb:cell m C p k=cb at *;have Hcb:=hid hcb;clear hcb;rw[Hv.out] at hO9 hKs Hno;go_wp2
   go_quiet (fail)
   go_wp2_with fail;refine (ZQ _ _).mono ?_;rintro e _ ⟨rfl,rfl⟩;cases hn1:Zl (cb*t) with
   |false=>have HF:=hid (Hno.out (fun h=>by rw[hn1] at h;cases h.1));go_wp2;go_ret;exact ⟨_,by rw[HF.out];rfl,hO9 _,(hG24.any.trans hK).trans (hKs _),fun h=>by rw[HF.out] at h;cases h⟩
   |true=>
    go_wp2_with fail;refine (ZQ _ _).mono ?_;rintro e _ ⟨rfl,rfl⟩;cases hn2:Zl (ca+cb*t) with
    |false=>have HF:=hid (Hno.out (fun h=>by rw[hn2] at h;cases h.2));go_wp2;go_ret;exact ⟨_,by rw[HF.out];rfl,hO9 _,(hG24.any.trans hK).trans (hKs _),fun h=>by rw[HF.out] at h;cases h⟩
    |true=>
     have Hst:=hid (show ∀ k',k'<k+1->Zl (cell m C p k'*t)=true/\Zl (Za4 m C i p t k')=true from fun k' hk'=>by
      by_cases e:k'=k
      ·subst e;rw[Hv.out,Hcb.out];exact ⟨hn1,hn2⟩
      ·exact Hall.out k' (by omega))
     go_wp2;go_roundw;case rel=>exact ⟨hK.trans (hKs _),k+1,by omega,by go_num,hO9 _,Hst.out⟩
     case measure=>simp[intOf];omega
  ·have hkC:k=C:=(by omega);subst hkC;have HT:=hid (Zcg.2 Hall.out);go_wp2;go_ret;exact ⟨_,by rw[HT.out];rfl,hO,hG24.any.trans hK,fun _=>rfl⟩
theorem Zbu (a:Option Addr) (n cp C i p R:Nat) (t:Int) (m:List Int) (w:World) (h:Own w 3 1 a n cp (ints m)) (hmR:m.length=R*C) (hiR:i<R) (hpR:p<R) (hip:i≠p) (hi2:i<=1000) (hp2:p<=1000) (hC2:C<=1048576):
  Calls Tryz.prog 107 #[.agg #[Yv Yi (R:Int),Yv Yi C, .slice a n cp], .agg #[Yv Yi 0,Yv Yi i,Yv Yi p,Yv Yi t]] w fun e w'=>e= .returned (.bool true)/\Own w' 3 1 a n cp (ints (swR m C i p))/\Keep (fun q=>blk a≠some q) w w':=by
 have hi:=Zci hmR hiR;have hp:=Zci hmR hpR;rw[show m.length=n by simpa using h.len] at hi hp;obtain ⟨kd,hkd⟩: ∃ kd:Int,kd=0:=⟨_,rfl⟩;rw[←hkd];have hl:m.length=n:=by simpa using h.len
 obtain ⟨w2,hw2,hG2,bM,bX, -⟩:=al2 w #[Yv Yi (R:Int),Yv Yi (C:Int), .slice a n cp] 34 #[Yv Yi kd,Yv Yi (i:Int),Yv Yi (p:Int),Yv Yi t] 148;have hO0:Own w2 3 1 a n cp (ints m):=h.grow hG2;have nX:blk a≠some (w.heap.size+1):=fun e=>by have:=h.lt e;omega
 have Hw2:=hid hw2;clear hw2;have hlow: ∀ q,blk a=some q->q<w.heap.size:=fun q hq=>h.lt hq;clear h;subst hkd;go_enter Tryz.func107,Tryz.ntmps107;go_wp2_with fail;rw[←Hw2.out];refine (ZeA a n cp C i (R:Int) m _ hO0 hi (by omega) hC2).mono ?_;rintro e w3 ⟨a1,rfl,hA1,hG3⟩;have hO3:=hO0.grow hG3;have bX3:=bX.grow hG3;have bM3:=bM.grow hG3;obtain ⟨⟨m0,m1,m2⟩, -⟩:=bM3.three;have x0:=bX3.cell 0;have x1:=bX3.cell 1;have x2:=bX3.cell 2;have x3:=bX3.cell 3;simp only[List.getElem?_toArray,List.getElem?_cons_zero,List.getElem?_cons_succ] at x0 x1 x2 x3;go_wp2_with fail;refine (ZeA a n cp C p (R:Int) m _ hO3 hp (by omega) hC2).mono ?_;rintro e w4 ⟨b1,rfl,hB1,hG4⟩;have hO4:=hO3.grow hG4;have bX4:=bX3.grow hG4;have hG24:=(hG2.trans hG3).trans hG4;clear x0 x1 x2 x3 m0 m1 m2 bM3 bX3 hO3 hO0 bM bX;go_wp2;go_loopw [19] (fun q wr=>Keep (fun q=>blk a≠some q) w4 wr/\ ∃ k:Nat,k<=C/\q=Yv Yi k/\Own wr 3 1 a n cp (ints (swN m C i p k))) (fun q _=>C-(intOf q).toNat);case atStart=>exact ⟨Keep.refl _ _,0,Nat.zero_le _,rfl,hO4⟩
 case round=>
  clear hO4;obtain ⟨hK,k,hk,rfl,hO⟩:=hrel;by_cases hlt:k<C
  ·have bXr:=bX4.keep hK nX;have x0:=bXr.cell 0;simp only[List.getElem?_toArray,List.getElem?_cons_zero] at x0;have hltX:=bXr.lt;have hlen:(swN m C i p k).length=n:=(by rw[Zbe,hl]);have hg1:(swN m C i p k).getD (i*C+k) 0=cell m C i k:=(by rw[Zgu hmR hiR hpR hip k (by omega) i k hlt,if_neg (by omega),if_neg (by omega)]);have hg2:(swN m C i p k).getD (p*C+k) 0=cell m C p k:=(by rw[Zgu hmR hiR hpR hip k (by omega) p k hlt,if_neg (by omega),if_neg (by omega)]);obtain ⟨pb,rfl,rfl⟩:=hA1 (by omega);obtain ⟨pb',hpb',rfl⟩:=hB1 (by omega);obtain rfl:pb=pb':=(by simpa using hpb');have hc1:=hO.cell (Zbg (by omega) hg1);have hc2:=hO.cell (Zbg (by omega) hg2);have hfr:=hO.free (i*C+k);have hfr2:=hO.free (p*C+k);have hpb:=hO.lt (g:=pb) rfl;have hcx:i*C+k≠p*C+k:=fun e=>hip (Zc5 hlt hlt e).1;have hO9:=((hO.set (i*C+k) (Yv Yi (cell m C p k))).set (p*C+k) (Yv Yi (cell m C i k))).grow (Grow.refl _).drew;rw[←ints_set, ←ints_set] at hO9;have Hu:=hid (show swN m C i p (k+1)=((swN m C i p k).set (i*C+k) (cell m C p k)).set (p*C+k) (cell m C i k) from rfl);have hKs:Keep (fun q=>blk (some (⟨pb,0,none⟩:Addr))≠some q) wr ((wr.setCell ⟨pb,i*C+k,none⟩ (Yv Yi (cell m C p k))).setCell ⟨pb,p*C+k,none⟩ (Yv Yi (cell m C i k))).drew:=(((Keep.refl _ wr).setCell (p:=⟨pb,i*C+k,none⟩) (fun _ e=>e rfl) _).setCell (p:=⟨pb,p*C+k,none⟩) (fun _ e=>e rfl) _).drew;clear hO hg1 hg2 hlen hA1 hB1 hpb';generalize cell m C i k=ca at hc1 hO9 Hu hKs;generalize cell m C p k=cb at hc2 hO9 Hu hKs;simp only at hc1 hc2 hfr hfr2;go_wp2;go_region;go_wp2;go_roundw;case rel=>exact ⟨hK.trans hKs,k+1,by omega,by go_num,by rw[Hu.out];exact hO9⟩
   case measure=>simp[intOf];omega
  ·have hkC:k=C:=(by omega);subst hkC;go_wp2;go_ret;exact ⟨rfl,hO,hG24.any.trans hK⟩
theorem ZiP (a:Option Addr) (n cp C i R:Nat) (t:Int) (m:List Int) (w:World) (h:Own w 3 1 a n cp (ints m)) (hmR:m.length=R*C) (hiR:i<R) (hm:NumL m) (hi2:i<=1000) (hC2:C<=1048576):
  Calls Tryz.prog 107 #[.agg #[Yv Yi (R:Int),Yv Yi C, .slice a n cp], .agg #[Yv Yi 1,Yv Yi i,Yv Yi i,Yv Yi t]] w fun e w'=>e= .returned (.bool true)/\Own w' 3 1 a n cp (ints (Zdv m C i))/\Keep (fun q=>blk a≠some q) w w':=by
 have hi:=Zci hmR hiR;rw[show m.length=n by simpa using h.len] at hi;obtain ⟨kd,hkd⟩: ∃ kd:Int,kd=1:=⟨_,rfl⟩;rw[←hkd];have hl:m.length=n:=by simpa using h.len
 obtain ⟨w2,hw2,hG2,bM,bX, -⟩:=al2 w #[Yv Yi (R:Int),Yv Yi (C:Int), .slice a n cp] 34 #[Yv Yi kd,Yv Yi (i:Int),Yv Yi (i:Int),Yv Yi t] 148;have hO0:Own w2 3 1 a n cp (ints m):=h.grow hG2;have nX:blk a≠some (w.heap.size+1):=fun e=>by have:=h.lt e;omega
 have Hw2:=hid hw2;clear hw2;have hlow: ∀ q,blk a=some q->q<w.heap.size:=fun q hq=>h.lt hq;clear h;subst hkd;go_enter Tryz.func107,Tryz.ntmps107;go_wp2_with fail;rw[←Hw2.out];refine (ZeA a n cp C i (R:Int) m _ hO0 hi (by omega) hC2).mono ?_;rintro e w3 ⟨a1,rfl,hA1,hG3⟩;have hO3:=hO0.grow hG3;have bX3:=bX.grow hG3;have bM3:=bM.grow hG3;obtain ⟨⟨m0,m1,m2⟩, -⟩:=bM3.three;have x0:=bX3.cell 0;have x1:=bX3.cell 1;have x2:=bX3.cell 2;have x3:=bX3.cell 3;simp only[List.getElem?_toArray,List.getElem?_cons_zero,List.getElem?_cons_succ] at x0 x1 x2 x3;go_wp2_with fail;refine (ZeA a n cp C i (R:Int) m _ hO3 hi (by omega) hC2).mono ?_;rintro e w4 ⟨b1,rfl,hB1,hG4⟩;have hO4:=hO3.grow hG4;have bX4:=bX3.grow hG4;have hG24:=(hG2.trans hG3).trans hG4;clear x0 x1 x2 x3 m0 m1 m2 bM3 bX3 hO3 hO0 bM bX;go_wp2;go_loopw [19] (fun q wr=>Keep (fun q=>blk a≠some q) w4 wr/\ ∃ k:Nat,k<=C/\q=Yv Yi k/\Own wr 3 1 a n cp (ints (ZC (fun k=> -cell m C i k) (i*C) k m))) (fun q _=>C-(intOf q).toNat);case atStart=>exact ⟨Keep.refl _ _,0,Nat.zero_le _,rfl,hO4⟩
 case round=>
  clear hO4;obtain ⟨hK,k,hk,rfl,hO⟩:=hrel;by_cases hlt:k<C
  ·have bXr:=bX4.keep hK nX;have x0:=bXr.cell 0;simp only[List.getElem?_toArray,List.getElem?_cons_zero] at x0;have hltX:=bXr.lt;have hlen:(ZC (fun k=> -cell m C i k) (i*C) k m).length=n:=(by rw[ZL,hl]);have hg1:(ZC (fun k=> -cell m C i k) (i*C) k m).getD (i*C+k) 0=cell m C i k:=(by rw[Zbc (by omega),if_neg (by omega)];rfl);obtain ⟨pb,rfl,rfl⟩:=hA1 (by omega);have hc1:=hO.cell (Zbg (by omega) hg1);have hfr:=hO.free (i*C+k);have hpb:=hO.lt (g:=pb) rfl;have hsA:=Zo hm C i k;have hO9:=hO.set (i*C+k) (Yv Yi (-cell m C i k));rw[←ints_set] at hO9;have Hu:=hid (show ZC (fun k=> -cell m C i k) (i*C) (k+1) m=(ZC (fun k=> -cell m C i k) (i*C) k m).set (i*C+k) (-cell m C i k) from rfl);have hKs:Keep (fun q=>blk (some (⟨pb,0,none⟩:Addr))≠some q) wr (wr.setCell ⟨pb,i*C+k,none⟩ (Yv Yi (-cell m C i k))):=(Keep.refl _ wr).setCell (p:=⟨pb,i*C+k,none⟩) (fun _ e=>e rfl) _;clear hO hg1 hlen hA1 hB1;generalize hca:cell m C i k=ca at hc1 hsA hO9 Hu hKs;clear hca;simp only at hc1 hfr;go_wp2;go_roundw;case rel=>exact ⟨hK.trans hKs,k+1,by omega,by go_num,by rw[Hu.out];exact hO9⟩
   case measure=>simp[intOf];omega
  ·have hkC:k=C:=(by omega);subst hkC;go_wp2;go_ret;exact ⟨rfl,hO,hG24.any.trans hK⟩

end Go.Proofs.YtjpcgofidijigaaGreatDoor
