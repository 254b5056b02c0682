/- Looking for values by rounds: plain Lean, no program. -/
import Derived.Test.YtgeoehnbpkediaaGreatZEvP
import Derived.Test.YtgeoehnbpkediaaGreatZAddS
import Derived.Test.YtgeoehnbpkediaaGreatZStr
import Derived.Test.YtgeoehnbpkediaaGreatZOpF
import Derived.Test.YtgeoehnbpkediaaGreatZFind
set_option maxHeartbeats 8000000
set_option maxRecDepth 100000
namespace Go.Proofs.YtgeoehnbpkediaaGreat
open Go.RowKit
open Lib (hid)
open Go.Value renaming int->Yv
open Go.IntKind renaming i64->Yi
variable {D S:Nat->Prop} {a ka ra:Option Addr} {b i k kc n rc:Nat} {d:Dfn} {kn:Nat->Bool} {l:List Dfn} {res:Nat->Rs} {s:ByteArray} {sv:Nat->Value} {w w':World}
section
variable {R:Type} {nd:Nat->List (Option Nat)} {op:Nat->List R->R} {n:Nat}
structure Rnd (nd:Nat->List (Option Nat)) (op:Nat->List R->R) (n r i:Nat) (kn:Nat->Bool) (res:Nat->R):Prop where
 ok: ∀ j,j<n->kn j=true->ev nd op n j=some (res j)
 all: ∀ j x,j<n->ev nd op r j=some x->kn j=true
 part: ∀ j x,j<i->j<n->ev nd op (r+1) j=some x->kn j=true
theorem Rnd.start {res:Nat->R}:Rnd nd op n 0 0 (fun _=>false) res:=⟨fun _ _ h=>(by cases h),fun _ _ _ h=>(by cases h),fun _ _ h=>(by omega)⟩
theorem Rnd.next {r:Nat} {kn:Nat->Bool} {res:Nat->R} (h:Rnd nd op n r n kn res):Rnd nd op n (r+1) 0 kn res:=
 ⟨h.ok,fun j x hj hx=>h.part j x hj hj hx,fun _ _ h=>by omega⟩
theorem Rnd.skip {r i:Nat} {kn:Nat->Bool} {res:Nat->R} (h:Rnd nd op n r i kn res) (hs:kn i=true\/ ∃ o,o∈nd i/\ ∀ k,o=some k->k<n/\kn k=false):Rnd nd op n r (i+1) kn res:=by
 refine ⟨h.ok,h.all,fun j x hj hjn hx=> ?_⟩;by_cases e:j=i
 ·subst e;rcases hs with hk|⟨o,ho,hk⟩
  ·exact hk
  ·obtain ⟨k,y,e,hy⟩:=ZdJ hx ho;obtain ⟨hkn,hf⟩:=hk k e;rw[h.all k y hkn hy] at hf;cases hf
 ·exact h.part j x (by omega) hjn hx
theorem Rnd.take {r i:Nat} {kn:Nat->Bool} {res:Nat->R} (h:Rnd nd op n r i kn res) (hnd: ∀ i,i<n-> ∀ k,some k∈nd i->k<n) (hi:i<n) {xs:List R} (hx:(nd i).map (fun o=>o.bind fun k=>if kn k=true then some (res k) else none)=xs.map some):
  Rnd nd op n r (i+1) (fun j=>if j=i then true else kn j) (fun j=>if j=i then op i xs else res j):=by
 have hv:ev nd op n i=some (op i xs):=Zih hnd hi (by
  rw[←hx];refine List.map_congr_left fun o ho=> ?_;cases o with
  |none=>rfl
  |some k=>
   show ev nd op n k=if kn k=true then some (res k) else none;have hm:(if kn k=true then some (res k) else none)∈xs.map some:=(by rw[←hx];exact List.mem_map.2 ⟨some k,ho,rfl⟩);by_cases e:kn k=true
   ·rw[if_pos e];exact h.ok k (hnd i hi k ho) e
   ·rw[if_neg e] at hm;obtain ⟨y, -,hy⟩:=List.mem_map.1 hm;cases hy)
 refine ⟨fun j hj hk=> ?_,fun j x hj hx=> ?_,fun j x hj hjn hx=> ?_⟩
 ·by_cases e:j=i
  ·subst e;rw[if_pos rfl];exact hv
  ·rw[if_neg e] at hk ⊢;exact h.ok j hj hk
 ·by_cases e:j=i
  ·rw[if_pos e]
  ·rw[if_neg e];exact h.all j x hj hx
 ·by_cases e:j=i
  ·rw[if_pos e]
  ·rw[if_neg e];exact h.part j x (by omega) hjn hx
theorem Rnd.done {kn:Nat->Bool} {res:Nat->R} (h:Rnd nd op n n 0 kn res): ∀ j,j<n->ev nd op n j=if kn j=true then some (res j) else none:=fun j hj=>by
 by_cases e:kn j=true
 ·rw[if_pos e];exact h.ok j hj e
 ·rw[if_neg e];cases hx:ev nd op n j with
  |none=>rfl
  |some x=>exact absurd (h.all j x hj hx) e
end
def bls (kn:Nat->Bool) (n:Nat):List Value:=(List.range n).map fun j=>Value.bool (kn j)
def Zd6 (kn:Nat->Bool) (i:Nat) (b:Bool):Nat->Bool:=fun j=>if j=i then b else kn j
theorem Zp3 (kn:Nat->Bool) (n i:Nat) (b:Bool):(bls kn n).set i (.bool b)=bls (Zd6 kn i b) n:=by
 unfold bls;rw[Zfs];refine List.map_congr_left fun j _=> ?_;unfold Zd6;by_cases e:j=i<;>simp[e]
def stK (kn:Nat->Bool):Nat->Nat:=fun j=>if kn j=true then 2 else 0
theorem Zp5 (hi:i<n) (h:kn i=false):two (stK (Zd6 kn i true)) n=two (stK kn) n+1:=by
 have e:stK (Zd6 kn i true)=ZL (stK kn) i 2:=by
  funext j;unfold stK Zd6 ZL;by_cases e:j=i
  ·rw[if_pos e,if_pos e];rfl
  ·rw[if_neg e,if_neg e]
 rw[e];have h1:=Zhm (st:=stK kn) (i:=i) (v:=2) (n:=n);have h2:stK kn i=0:=by unfold stK;rw[h];rfl
 rw[if_neg (by omega),if_pos ⟨hi,rfl⟩] at h1;omega
theorem Ziv (st:Nat->Nat): ∀ n,two st n<=n
 |0=>Nat.le_refl _
 |n+1=>by have:=Ziv st n;simp only[two];split<;>omega
theorem T_boolss:SlT Tryz.prog 73 4 (.bool false) 1 1:=SlT.mk' Tryz.underlying73 (by kernel_rfl) rfl
structure FlW (w:World) (S:Nat->Prop) (ra:Option Addr) (rc:Nat) (ka:Option Addr) (kc n:Nat) (res:Nat->Rs) (sv:Nat->Value) (kn:Nat->Bool):Prop where
 oR:Own w 39 4 ra n rc (ZbJ (rsL res n) (svL sv n))
 oK:Own w 4 1 ka n kc (bls kn n)
 val:RdCells w S (svL sv n) (ZaQ (rsL res n))
 ok: ∀ j,j<n->ROk (res j)/\(rsM (res j)).cells.length<=1048576
theorem FlW.keep {T:Nat->Prop} (h:FlW w S ra rc ka kc n res sv kn) (k:Keep T w w') (hr: ∀ q,blk ra=some q->T q) (hk: ∀ q,blk ka=some q->T q) (hS: ∀ q,q<w.heap.size->S q->T q):FlW w' S ra rc ka kc n res sv kn:=
 ⟨h.oR.keep k (fun q hq _=>hr q hq),h.oK.keep k (fun q hq _=>hk q hq),h.val.keep k hS,h.ok⟩
theorem FlW.grow (h:FlW w S ra rc ka kc n res sv kn) (k:Grow w w'):FlW w' S ra rc ka kc n res sv kn:=
 h.keep k (fun _ _=>trivial) (fun _ _=>trivial) fun _ _ _=>trivial
theorem FlW.ne (h:FlW w S ra rc ka kc n res sv kn): ∀ q,blk ra=some q->blk ka≠some q:=Own.ne_own h.oR h.oK (by decide)
theorem FlW.knAt (h:FlW w S ra rc ka kc n res sv kn) (hi:i<n):
  ∃ b,ka=some ⟨b,0,none⟩/\b<w.heap.size/\w.cell? ⟨b,i,none⟩=some (.bool (kn i))/\w.frozen? ⟨b,i,none⟩=false:=by
 cases ka with
 |none=>have:=h.oK.nil rfl;have:=h.oK.le;omega
 |some p=>refine ⟨p.block,by rw[←(h.oK.block p rfl).1],h.oK.lt rfl,h.oK.cell (j:=i) ?_,h.oK.free i⟩;unfold bls;simp[hi]
theorem FlW.setKn (h:FlW w S ra rc (some ⟨b,0,none⟩) kc n res sv kn) (hS: ∀ q,S q->q≠b) (i:Nat) (v:Bool):
  FlW (w.setCell ⟨b,i,none⟩ (.bool v)) S ra rc (some ⟨b,0,none⟩) kc n res sv (Zd6 kn i v):=by
 have hk:Keep (fun q=>q≠b) w (w.setCell ⟨b,i,none⟩ (.bool v)):=(Keep.refl _ w).setCell (fun _ e=>e rfl) _;refine ⟨h.oR.keep hk (fun q hq _ e=>h.ne q hq (by rw[e];rfl)), ?_,h.val.keep hk fun q _ hq=>hS q hq,h.ok⟩;have h1:=h.oK.set i (.bool v);rw[Zp3] at h1;exact h1
theorem FlW.resAt (h:FlW w S ra rc ka kc n res sv kn) (hi:i<n):
  ∃ b a1 c1,ra=some ⟨b,0,none⟩/\b<w.heap.size/\RAt w b (i*4) (res i) (.slice a1 (rsM (res i)).cells.length c1)/\RdI w S a1 (rsM (res i)).cells.length c1 (rsM (res i)).cells/\(w.frozen? ⟨b,i*4,none⟩=false/\w.frozen? ⟨b,i*4+1,none⟩=false/\w.frozen? ⟨b,i*4+2,none⟩=false/\w.frozen? ⟨b,i*4+3,none⟩=false):=by
 cases ra with
 |none=>have:=h.oR.nil rfl;have:=h.oR.le;omega
 |some p=>
  have hr:(rsL res n)[i]? =some (res i):=Z9 res hi;have hs:(svL sv n)[i]? =some (sv i):=Z9 sv hi;obtain ⟨a1,c1,h1,h2⟩:=h.val i _ (Zci hr);have e1:sv i= .slice a1 (rsM (res i)).cells.length c1:=by rw[hs] at h1;exact Option.some.inj h1
  have key: ∀ j v,j<4->(ZcF (res i) (.slice a1 (rsM (res i)).cells.length c1))[j]? =some v->w.cell? ⟨p.block,i*4+j,none⟩=some v:=fun j v hj hv=>
   h.oR.cell (by rw[ZeV hr hs hj,e1];exact hv)
  exact ⟨p.block,a1,c1,by rw[←(h.oR.block p rfl).1],h.oR.lt rfl,⟨key 0 _ (by omega) rfl,key 1 _ (by omega) rfl,key 2 _ (by omega) rfl,key 3 _ (by omega) rfl⟩,h2,h.oR.free _,h.oR.free _,h.oR.free _,h.oR.free _⟩
theorem FlW.setRes (h:FlW w S (some ⟨b,0,none⟩) rc ka kc n res sv kn) (hS: ∀ q,S q->q≠b) (hi:i<n) {r:Rs} {c:Nat} (hr:RdI w S a (rsM r).cells.length c (rsM r).cells) (hok:ROk r/\(rsM r).cells.length<=1048576):
  FlW ((((w.setCell ⟨b,i*4,none⟩ (Yv Yi (rsM r).rows)).setCell ⟨b,i*4+1,none⟩ (Yv Yi (rsM r).cols)).setCell ⟨b,i*4+2,none⟩ (.slice a (rsM r).cells.length c)).setCell ⟨b,i*4+3,none⟩ (.bool r.isSome)) S (some ⟨b,0,none⟩) rc ka kc n (Zaa res i r) (Zaa sv i (.slice a (rsM r).cells.length c)) kn:=by
 have hk:Keep (fun q=>q≠b) w ((((w.setCell ⟨b,i*4,none⟩ (Yv Yi (rsM r).rows)).setCell ⟨b,i*4+1,none⟩ (Yv Yi (rsM r).cols)).setCell ⟨b,i*4+2,none⟩ (.slice a (rsM r).cells.length c)).setCell ⟨b,i*4+3,none⟩ (.bool r.isSome)):=
  ((((Keep.refl _ w).setCell (fun _ e=>e rfl) _).setCell (fun _ e=>e rfl) _).setCell (fun _ e=>e rfl) _).setCell (fun _ e=>e rfl) _
 refine ⟨?_,h.oK.keep hk (fun q hq _ e=>h.ne q (by rw[e];rfl) hq),(h.val.putE hr).keep hk fun q _ hq=>hS q hq,fun j hj=> ?_⟩
 ·have h1:=(((h.oR.set (i*4) (Yv Yi (rsM r).rows)).set (i*4+1) (Yv Yi (rsM r).cols)).set (i*4+2) (.slice a (rsM r).cells.length c)).set (i*4+3) (.bool r.isSome);rw[Zh8 (by simp[rsL,svL]) (by simp[rsL];exact hi),ZlR,Zl7] at h1;exact h1
 ·unfold Zaa;by_cases e:j=i
  ·rw[if_pos e];exact hok
  ·rw[if_neg e];exact h.ok j hj
theorem Zpf (h:l[i]? =some d):ndL l i=(ZaF d).map (Zbq l):=by unfold ndL;rw[h]
theorem ZdW (h:Zj l s=(k:Int)):Zbq l s=some k:=by unfold Zbq;rw[if_pos (by omega),h];rfl
theorem ZoB (h:Zj l s<0):Zbq l s=none:=by unfold Zbq;rw[if_neg (by omega)]
theorem ZiN (h:Zj l s=(k:Int)):k<l.length:=Zgi (ZdW h)
theorem Zhr (hl:l.length=n) (h:l[i]? =some d) (hs:s∈ZaF d) (hk:Zj l s<0\/ ∃ k:Nat,Zj l s=(k:Int)/\kn k=false): ∃ o,o∈ndL l i/\ ∀ k,o=some k->k<n/\kn k=false:=by
 refine ⟨Zbq l s,by rw[Zpf h];exact List.mem_map.2 ⟨s,hs,rfl⟩,fun k hk2=> ?_⟩;rcases hk with h1|⟨k',h1,h2⟩
 ·rw[ZoB h1] at hk2;cases hk2
 ·rw[ZdW h1] at hk2;obtain rfl:=Option.some.inj hk2;exact ⟨by have:=ZiN h1;omega,h2⟩
theorem ZnE (h:d.op≠0):d.a∈ZaF d:=by unfold ZaF;rw[if_neg h];split<;>simp
theorem Znv (h:d.op=1\/d.op=2):d.b∈ZaF d:=by unfold ZaF;rw[if_neg (by omega),if_pos h];simp
theorem Zoy {op:Int} (h:2<op) (a b c:Mat):opF op a b=opF op a c:=by
 have h1: ¬ op=1:=by omega
 have h2: ¬ op=2:=by omega
 unfold opF;simp only[if_neg h1,if_neg h2]
theorem ZhY {x y:Rs} (h:l[i]? =some d) (hop:0<=d.op)
  (ha:d.op≠0-> ∃ k:Nat,Zj l d.a=(k:Int)/\kn k=true/\x=res k) (hb:d.op=1\/d.op=2-> ∃ k:Nat,Zj l d.b=(k:Int)/\kn k=true/\y=res k):
  ∃ xs:List Rs,(ndL l i).map (fun o=>o.bind fun k=>if kn k=true then some (res k) else none)=xs.map some/\opL opF l i xs=doR d x y:=by
 have e: ∀ xs,opL opF l i xs=opD opF d xs:=fun xs=>by unfold opL;rw[h]
 rw[Zpf h];by_cases h0:d.op=0
 ·refine ⟨[],by unfold ZaF;rw[if_pos h0];rfl, ?_⟩;rw[e];unfold opD doR;rw[if_pos h0,if_pos h0];rfl
 ·obtain ⟨ka,ea,ka2,rfl⟩:=ha h0;by_cases h2:d.op=1\/d.op=2
  ·obtain ⟨kb,eb,kb2,rfl⟩:=hb h2;refine ⟨[res ka,res kb], ?_, ?_⟩
   ·unfold ZaF;rw[if_neg h0,if_pos h2];simp[ZdW ea,ZdW eb,ka2,kb2]
   ·rw[e];unfold opD doR;rw[if_neg h0,if_neg h0];have: ¬ 2<d.op:=(by omega);have hc:([res ka,res kb].all Rs.isSome=true)↔((res ka).isSome=true/\(2<d.op\/(res kb).isSome=true)):=(by simp[this]);by_cases hb:[res ka,res kb].all Rs.isSome=true
    ·rw[if_pos hb,if_pos (hc.1 hb)];rfl
    ·rw[if_neg hb,if_neg fun h=>hb (hc.2 h)];rfl
  ·refine ⟨[res ka], ?_, ?_⟩
   ·unfold ZaF;rw[if_neg h0,if_neg h2];simp[ZdW ea,ka2]
   ·rw[e];unfold opD doR;rw[if_neg h0,if_neg h0];have h3:2<d.op:=(by omega);have hc:([res ka].all Rs.isSome=true)↔((res ka).isSome=true/\(2<d.op\/y.isSome=true)):=(by simp[h3]);by_cases hb:[res ka].all Rs.isSome=true
    ·rw[if_pos hb,if_pos (hc.1 hb)];exact congrArg ZhJ (Zoy h3 _ _ _)
    ·rw[if_neg hb,if_neg fun h=>hb (hc.2 h)];rfl
theorem Zge (h:Zp l=true) (hs:s.toList.isEmpty=true):Zj l s= -1:=by
 have h5:=Zce (fun d:Dfn=>d.name.toList==s.toList) l;refine Int.le_antisymm (Int.not_lt.1 fun h0=> ?_) h5.1;have h1:=(ZaT (fun d:Dfn=>d.name.toList==s.toList) l).1 (show 0<=Zj l s by omega);rw[List.any_eq_true] at h1;obtain ⟨d,hd,he⟩:=h1;have h2:=(Zb8 h).1 d hd;unfold Zbh at h2;simp only[Bool.and_eq_true] at h2;have h3:=((ZcM _).1 h2.1).2.1;have h4:d.name.toList=[]:=by rw[List.isEmpty_iff.1 hs] at he;simpa using he
 rw[toList_data] at h4;have h6:d.name.size=0:=by show d.name.data.size=0;rw[←Array.length_toList,h4];rfl
 omega
theorem Zqp (h:Zp l=true) (hd:d∈l):(0<=d.op/\d.op<=9)/\(d.op=0->Zj l d.a= -1/\Zj l d.b= -1)/\(2<d.op->Zj l d.b= -1):=by
 have h2:=(Zb8 h).1 d hd;unfold Zbh at h2;simp only[Bool.and_eq_true,decide_eq_true_eq] at h2;obtain ⟨-,h3,h4⟩:=h2;refine ⟨h3,fun h0=> ?_,fun h0=> ?_⟩
 ·rw[if_pos h0] at h4;simp only[Bool.and_eq_true] at h4;exact ⟨Zge h h4.1,Zge h h4.2.1⟩
 ·rw[if_neg (by omega),if_neg (by omega)] at h4;simp only[Bool.and_eq_true] at h4;exact Zge h h4.2.1
def FlI (w:World) (S:Nat->Prop) (ra:Option Addr) (rc:Nat) (ka:Option Addr) (kc n:Nat) (nd:Nat->List (Option Nat)) (op:Nat->List Rs->Rs) (res0:Nat->Rs) (kn0:Nat->Bool) (r i cnt:Nat) (wr:World):Prop:=
 ∃ res sv kn,FlW wr S ra rc ka kc n res sv kn/\Rnd nd op n r i kn res/\cnt+two (stK kn0) n=two (stK kn) n/\(∀ j,j<n->kn0 j=true->kn j=true/\res j=res0 j)/\(∀ j,j<n->kn j=false->res j=res0 j)/\Keep (fun q=>blk ra≠some q/\blk ka≠some q) w wr
theorem FlW.knC (h:FlW w S ra rc (some ⟨b,0,none⟩) kc n res sv kn) (hi:i<n):w.cell? ⟨b,i,none⟩=some (.bool (kn i)):=
 h.oK.cell (j:=i) (by unfold bls;simp[hi])
theorem FlW.resC (h:FlW w S (some ⟨b,0,none⟩) rc ka kc n res sv kn) (hi:i<n):
  ∃ a1 c1,RAt w b (i*4) (res i) (.slice a1 (rsM (res i)).cells.length c1)/\RdI w S a1 (rsM (res i)).cells.length c1 (rsM (res i)).cells:=by
 obtain ⟨b',a1,c1,e, -,h1,h2, -⟩:=h.resAt hi;injection e with e;injection e with e1;subst e1;exact ⟨a1,c1,h1,h2⟩
theorem Zku (hbd: ∀ d∈l,d.value.cells.length<=1048576) (hd:d∈l) (x y:Rs):(rsM (doR d x y)).cells.length<=1048576:=by
 have key: ∀ o:Option Mat,(∀ m,o=some m->m.cells.length<=1048576)->(rsM (ZhJ o)).cells.length<=1048576:=fun o h=>by
  cases o with
  |none=>simp[rsM,ZhJ,rs0,rsZ]
  |some m=>exact h m rfl
 unfold doR;refine key _ fun m hm=> ?_;split at hm
 ·obtain rfl:=Option.some.inj hm;exact hbd d hd
 ·split at hm
  ·exact ZnB hm
  ·cases hm
theorem FlI.take {w5:World} {r cnt:Nat} {nd:Nat->List (Option Nat)} {op:Nat->List Rs->Rs} {res0:Nat->Rs} {kn0:Nat->Bool} {v:Value} {rr:Rs} {xs:List Rs} (hF:FlW w5 S ra rc ka kc n (Zaa res i rr) (Zaa sv i v) (Zd6 kn i true)) (hlt: ∀ i,i<n-> ∀ k,some k∈nd i->k<n) (hi:i<n) (hki:kn i=false) (hR:Rnd nd op n r i kn res)
  (hnd:(nd i).map (fun o=>o.bind fun k=>if kn k=true then some (res k) else none)=xs.map some) (hop:op i xs=rr) (hc:cnt+two (stK kn0) n=two (stK kn) n) (hk1: ∀ j,j<n->kn0 j=true->kn j=true/\res j=res0 j) (hk2: ∀ j,j<n->kn j=false->res j=res0 j) (hK:Keep (fun q=>blk ra≠some q/\blk ka≠some q) w w5):FlI w S ra rc ka kc n nd op res0 kn0 r (i+1) (cnt+1) w5:=by
 have h1:=hR.take hlt hi hnd;rw[hop] at h1;refine ⟨_,_,_,hF,h1,by rw[Zp5 hi hki];omega,fun j hj h=> ?_,fun j hj h=> ?_,hK⟩
 ·obtain ⟨e1,e2⟩:=hk1 j hj h;have hne:j≠i:=fun e=>by rw[e,hki] at e1;cases e1
  unfold Zd6 Zaa;rw[if_neg hne,if_neg hne];exact ⟨e1,e2⟩
 ·unfold Zd6 at h;by_cases e:j=i
  ·rw[if_pos e] at h;cases h
  ·rw[if_neg e] at h;unfold Zaa;rw[if_neg e];exact hk2 j hj h
theorem ZlH (da:Option Addr) (dc:Nat) (l:List Dfn) (ra ka:Option Addr) (rc kc n:Nat) (res0:Nat->Rs) (sv0:Nat->Value) (kn0:Nat->Bool) (nd:Nat->List (Option Nat)) (op:Nat->List Rs->Rs) (w:World)
  (hd:RdD w D da n dc l) (hs:Zp l=true) (hF:FlW w S ra rc ka kc n res0 sv0 kn0) (hsep: ∀ q,S q->blk ra≠some q/\blk ka≠some q) (hdsep: ∀ q,D q->blk ra≠some q/\blk ka≠some q) (hSz: ∀ q,w.heap.size<=q->S q)
  (hlt: ∀ i,i<n-> ∀ k,some k∈nd i->k<n) (hnq: ∀ j,j<n->kn0 j=false->nd j=ndL l j/\ ∀ xs,op j xs=opL opF l j xs) (hR:Rnd nd op n 0 0 kn0 res0) (hbd: ∀ d∈l,d.value.cells.length<=1048576):
  Calls Tryz.prog 41 #[.slice da n dc, .slice ra n rc, .slice ka n kc] w fun e w'=> ∃ cnt:Nat,e= .returned (Yv Yi (cnt:Int))/\FlI w S ra rc ka kc n nd op res0 kn0 n 0 cnt w':=by
 have hln:=hd.len;have hn12:n<=12:=by have:=(Zb8 hs).2;omega
 have HF0:=hid (show FlI w S ra rc ka kc n nd op res0 kn0 0 0 0 w from ⟨res0,sv0,kn0,hF,hR,by omega,fun j _ h=>⟨h,rfl⟩,fun _ _ _=>rfl,Keep.refl _ w⟩);have Hln:=hid hln;have Hs:=hid hs;have Hbd:=hid hbd;have Hnq:=hid hnq;have Hlt:=hid hlt;clear hF hR hln hs hbd hnq hlt;go_enter Tryz.func41,Tryz.ntmps41;go_wp2_with fail;go_loopw [7,8] (fun nv rv wr=> ∃ r cnt:Nat,r<=n/\rv=Yv Yi r/\nv=Yv Yi cnt/\FlI w S ra rc ka kc n nd op res0 kn0 r 0 cnt wr) (fun _ rv _=>n-(intOf rv).toNat);case atStart=>exact ⟨0,0,Nat.zero_le _,rfl,rfl,HF0.out⟩
 case round=>
  clear HF0;obtain ⟨r,cnt,hr,rfl,rfl,hI⟩:=hrel;have HI:=hid hI;clear hI;by_cases hltr:r<n
  ·go_wp2;obtain ⟨wo,rfl⟩: ∃ wo,wo=wr:=⟨_,rfl⟩;go_loopw [7,9] (fun nv iv wr=> ∃ i cnt:Nat,i<=n/\iv=Yv Yi i/\nv=Yv Yi cnt/\FlI w S ra rc ka kc n nd op res0 kn0 r i cnt wr) (fun _ iv _=>n-(intOf iv).toNat);case atStart=>exact ⟨0,cnt,Nat.zero_le _,rfl,rfl,HI.out⟩
   case round=>
    clear HI;obtain ⟨i,cnt,hi,rfl,rfl,hI⟩:=hrel;by_cases hlti:i<n
    ·obtain ⟨res,sv,kn,hF,hR,hc,hk1,hk2,hKw⟩:=hI;have hdr:=hd.keep hKw fun q _ hq=>hdsep q hq;obtain ⟨db,doff,d,va,vc,eda,hdi,hdD,hdl,hdA,rV,oD⟩:=hdr.at hlti;subst eda;obtain ⟨c0,c1,c2,c3,c4,c5,c6⟩:=id hdA;have hdm:d∈l:=List.mem_of_getElem? hdi;obtain ⟨hop,hop0,hop2⟩:=Zqp Hs.out hdm;obtain ⟨kb,eka,hkb,k0,kf0⟩:=hF.knAt hlti;subst eka;have hskip:(kn i=true\/ ∃ o,o∈nd i/\ ∀ k,o=some k->k<n/\kn k=false)->FlI w S ra rc (some ⟨kb,0,none⟩) kc n nd op res0 kn0 r (i+1) cnt wr:=fun h=>⟨res,sv,kn,hF,hR.skip h,hc,hk1,hk2,hKw⟩;have Hskip:=hid hskip;clear hskip;go_wp2_with fail;refine (Zbb _ n dc l d.a _ hdr (by omega)).mono ?_;rintro e _ ⟨rfl,rfl⟩;go_wp2_with fail;refine (Zbb _ n dc l d.b _ hdr (by omega)).mono ?_;rintro e _ ⟨rfl,rfl⟩;cases hki:kn i with
     |true=>
      have HSk:=hid (Hskip.out (.inl hki));rw[hki] at k0;clear hF hR hc hk1 hk2 hKw Hskip hki hdr hdi rV hdm hop hop0 hop2;go_wp2;go_roundw;case rel=>exact ⟨i+1,cnt,by omega,by go_num,rfl,HSk.out⟩
      case measure=>simp[intOf];omega
     |false=>
      rw[hki] at k0;have hkn0:kn0 i=false:=by
       cases h:kn0 i with
       |false=>rfl
       |true=>rw[(hk1 i hlti h).1] at hki;cases hki
      obtain ⟨hnd,hopx⟩:=Hnq.out i hlti hkn0;obtain ⟨rb, -, -,era,hrb, -, -,rf0,rf1,rf2,rf3⟩:=hF.resAt hlti;subst era;have Hki:=hid hki;have Hnd:=hid hnd;clear hki hnd hkn0;by_cases h0:d.op=0
      ·obtain ⟨ea,eb⟩:=hop0 h0;rw[ea,eb];rw[h0] at c1;obtain ⟨xs,hx1,hx2⟩:=ZhY (kn:=kn) (res:=res) (x:=rs0) (y:=rs0) hdi hop.1 (fun h=>(h h0).elim) (fun h=>by omega);have hvX: ∀ W:World,Grow wr W->VRs W (fun _=>True) (.agg #[Yv Yi 0,Yv Yi 0, .slice none 0 0, .bool false]) rs0:=fun _ _=>VRs.zero;have hvY:=hvX;have hbX:(rsM rs0).cells.length<=1048576:=(by simp[rsM,rs0,rsZ]);have hbY:=hbX;clear ea eb h0;have HX:=hid hx1;have Hopv:=hid (show op i xs=doR d (rs0) (rs0) by rw[hopx xs,hx2]);have hbr:=Zku Hbd.out hdm (rs0) (rs0);obtain ⟨w2,hw2,hG2,bX,bY, -⟩:=al2 wr #[Yv Yi 0,Yv Yi 0, .slice none 0 0, .bool false] 39 #[Yv Yi 0,Yv Yi 0, .slice none 0 0, .bool false] 39;have Hw2:=hid hw2;have hF2:=hF.grow hG2;have dA2:=hdA.grow hG2;have rV2:RdI w2 (fun _=>True) va d.value.cells.length vc d.value.cells:=(rV.weak fun _ _ _=>trivial).grow hG2;have Hdo:=hid (fun (W:World) (hW:Grow w2 W)=>Zmj (U:=fun _=>True) (S:=fun _=>True) (T:=fun _=>True) ⟨va,d.value.cells.length,vc,rfl,rV2.grow hW,oD⟩ (hvX W (hG2.trans hW)) (hvY W (hG2.trans hW)) (Hbd.out d hdm) hbX hbY hop);have hcb:cnt<=12:=(by have:=Ziv (stK kn) n;omega);have Hc:=hid hc;have Hk1:=hid hk1;have Hk2:=hid hk2;have HR:=hid hR;have Hdm:=hid hdm;clear hx1 hx2 hopx hw2 hvX hvY hbX hbY rV rV2 hdA hc hk1 hk2 hR hdr hdi Hskip hop hop0 hop2;go_wp2;rw[←Hw2.out];refine ZF (S:=(Grow w2)) (last:=10) [([0,1,2,3,4,5,6,7],some 8),([9],some 10)] Zm (by kernel_rfl) (fun _ _ _ _ _ h=>h) (Grow.refl _).drew ?_;show wpQuiet _ _ _ _ [_,_,_,_,_,_,_,_] _;(repeat (first |(go_big_quiet_want;(first |refine ZH Zao rfl rfl (fun w' hG=>dA2.grow hG) ?_|refine ZC (cs:= #[Yv Yi 0,Yv Yi 0, .slice none 0 0, .bool false]) ZbA rfl rfl (fun w' hG=>bX.grow hG) ?_|refine ZC (cs:= #[Yv Yi 0,Yv Yi 0, .slice none 0 0, .bool false]) ZbA rfl rfl (fun w' hG=>bY.grow hG) ?_);go_big_quiet_on;simp only[putP])|go_big_quiet_step (exact fun _=>rfl)));refine wpQuiet_nil ?_;refine Zx rfl (fun K hK=> ?_);go_wp2_with fail;refine (Hdo.out _ (Grow.refl w2).drew).mono ?_;rintro e w3 ⟨rv,rfl,⟨a3,c3',rfl,rdv,okv⟩,hG3⟩;have hGa:=(Grow.refl w2).drew.trans hG3;go_wp2_with fail;refine hK _ _ ((fun _=>hGa)) ?_;clear hK K;show wpQuiet _ _ _ _ [_] _;(try (conv=>arg 6;simp only[putP]));(repeat (first |(go_big_quiet_want;(first |refine ZH Zao rfl rfl (fun w' hG=>dA2.grow hG) ?_|refine ZC (cs:= #[Yv Yi 0,Yv Yi 0, .slice none 0 0, .bool false]) ZbA rfl rfl (fun w' hG=>bX.grow hG) ?_|refine ZC (cs:= #[Yv Yi 0,Yv Yi 0, .slice none 0 0, .bool false]) ZbA rfl rfl (fun w' hG=>bY.grow hG) ?_);go_big_quiet_on;simp only[putP])|go_big_quiet_step (exact fun _=>rfl)));refine wpQuiet_nil ?_;refine Zx rfl (fun K hK=> ?_);have hF3:=hF2.grow hGa;have E4:=hF3.setRes (fun q hq e=>(hsep q hq).1 (by rw[e];rfl)) hlti (r:=doR d (rs0) (rs0)) (a:=a3) (c:=c3') (rdv.weak fun q _ hq=>hSz q (by have:=hKw.size;have:=hG2.size;simp at hq;omega)) ⟨okv,hbr⟩;have rg0:=hF3.oR.free (i*4);have rg1:=hF3.oR.free (i*4+1);have rg2:=hF3.oR.free (i*4+2);have rg3:=hF3.oR.free (i*4+3);simp only at rg0 rg1 rg2 rg3;obtain ⟨s1,s2,⟨rq0,rq1,rq2,rq3⟩, -⟩:=hF3.resC hlti;have hlrb:=hF3.oR.lt (g:=rb) rfl;clear rf0 rf1 rf2 rf3;generalize doR d (rs0) (rs0)=rr at *;have hK3:Keep (fun q=>blk (some (⟨rb,0,none⟩:Addr))≠some q/\blk (some (⟨kb,0,none⟩:Addr))≠some q) w w3:=hKw.trans ((hG2.trans hGa).any.mono fun _ _ _=>trivial);have hnrb: ¬ (blk (some (⟨rb,0,none⟩:Addr))≠some rb/\blk (some (⟨kb,0,none⟩:Addr))≠some rb):=fun e=>e.1 rfl;have hK4:=(((hK3.setCell (p:=⟨rb,i*4,none⟩) (fun _=>hnrb) (Yv Yi (rsM rr).rows)).setCell (p:=⟨rb,i*4+1,none⟩) (fun _=>hnrb) (Yv Yi (rsM rr).cols)).setCell (p:=⟨rb,i*4+2,none⟩) (fun _=>hnrb) (.slice a3 (rsM rr).cells.length c3')).setCell (p:=⟨rb,i*4+3,none⟩) (fun _=>hnrb) (.bool rr.isSome);go_wp2_with fail;refine hK _ _ ((fun h=>(h rfl).elim)) ?_;clear hK K;refine Z7 ?_;generalize hw4:((((w3.setCell ⟨rb,i*4,none⟩ (Yv Yi (rsM rr).rows)).setCell ⟨rb,i*4+1,none⟩ (Yv Yi (rsM rr).cols)).setCell ⟨rb,i*4+2,none⟩ (.slice a3 (rsM rr).cells.length c3')).setCell ⟨rb,i*4+3,none⟩ (.bool rr.isSome))=w4 at *;clear hw4 rg0 rg1 rg2 rg3 rq0 rq1 rq2 rq3 hlrb hF3 hF2 hF bX bY dA2 rdv okv k0 kf0;have kq:=E4.knC hlti;have kg:=E4.oK.free i;simp only at kg;have hlkb:=E4.oK.lt (g:=kb) rfl;have E5:=E4.setKn (fun q hq e=>(hsep q hq).2 (by rw[e];rfl)) i true;have hK5:=hK4.setCell (p:=⟨kb,i,none⟩) (fun _ e=>e.2 rfl) (.bool true);have HI:=hid (FlI.take E5 Hlt.out hlti Hki.out HR.out (by rw[Hnd.out];exact HX.out) Hopv.out Hc.out Hk1.out Hk2.out hK5);clear E4 E5 hK4 hK5;go_wp2;go_roundw;case rel=>exact ⟨i+1,cnt+1,by omega,by go_num,by go_num,HI.out⟩
       case measure=>simp[intOf];omega
      ·have q0:(d.op !=0)=true:=(by simp[h0]);by_cases hA:Zj l d.a<0
       ·have ea:Zj l d.a= -1:=(by have:=(Zce (fun x:Dfn=>x.name.toList==d.a.toList) l).1;have: -1<=Zj l d.a:=this;omega);have HSk:=hid (Hskip.out (.inr (by rw[Hnd.out];exact Zhr Hln.out hdi (ZnE h0) (.inl hA))));rw[ea];clear hF hR hc hk1 hk2 hKw Hskip hdr hdi rV hdm hop hop0 hop2 ea hA h0 hopx hdA;go_wp2;go_roundw;case rel=>exact ⟨i+1,cnt,by omega,by go_num,rfl,HSk.out⟩
        case measure=>simp[intOf];omega
       ·obtain ⟨k1,ek1⟩: ∃ k:Nat,Zj l d.a=(k:Int):=⟨_,(Int.toNat_of_nonneg (by omega)).symm⟩;have hk1n:k1<n:=(by have:=ZiN ek1;rw[Hln.out] at this;exact this);have kc1:=hF.knC hk1n;rw[ek1];cases hkk:kn k1 with
        |false=>
         have HSk:=hid (Hskip.out (.inr (by rw[Hnd.out];exact Zhr Hln.out hdi (ZnE h0) (.inr ⟨k1,ek1,hkk⟩))));rw[hkk] at kc1;clear hF hR hc hk1 hk2 hKw Hskip hdr hdi rV hdm hop hop0 hop2 hA h0 hopx hdA ek1 hkk;go_wp2;go_roundw;case rel=>exact ⟨i+1,cnt,by omega,by go_num,rfl,HSk.out⟩
         case measure=>simp[intOf];omega
        |true=>
         rw[hkk] at kc1;obtain ⟨xa,xc,⟨rx0,rx1,rx2,rx3⟩,rX⟩:=hF.resC hk1n;have hvX: ∀ W:World,Grow wr W->VRs W (fun _=>True) (.agg #[Yv Yi (rsM (res k1)).rows,Yv Yi (rsM (res k1)).cols, .slice xa (rsM (res k1)).cells.length xc, .bool (res k1).isSome]) (res k1):=fun W hW=>⟨xa,xc,rfl,(rX.weak fun _ _ _=>trivial).grow hW,(hF.ok k1 hk1n).1⟩;have hbX:=(hF.ok k1 hk1n).2;by_cases h2:2<d.op
         ·have eb:=hop2 h2;rw[eb];obtain ⟨xs,hx1,hx2⟩:=ZhY (kn:=kn) (res:=res) (x:=res k1) (y:=rs0) hdi hop.1 (fun _=>⟨k1,ek1,hkk,rfl⟩) (fun h=>by omega);have hvY: ∀ W:World,Grow wr W->VRs W (fun _=>True) (.agg #[Yv Yi 0,Yv Yi 0, .slice none 0 0, .bool false]) rs0:=fun _ _=>VRs.zero;have hbY:(rsM rs0).cells.length<=1048576:=(by simp[rsM,rs0,rsZ]);have hin:inB d.op 1 2=false:=(by unfold inB;simp;omega);clear eb ek1 hkk hA;go_wp2_with fail;refine (Zbg _ _ _ _).mono ?_;rintro e _ ⟨rfl,rfl⟩;rw[hin];clear hin h2 h0;have HX:=hid hx1;have Hopv:=hid (show op i xs=doR d ((res k1)) (rs0) by rw[hopx xs,hx2]);have hbr:=Zku Hbd.out hdm ((res k1)) (rs0);obtain ⟨w2,hw2,hG2,bX,bY, -⟩:=al2 wr #[Yv Yi (rsM (res k1)).rows,Yv Yi (rsM (res k1)).cols, .slice xa (rsM (res k1)).cells.length xc, .bool (res k1).isSome] 39 #[Yv Yi 0,Yv Yi 0, .slice none 0 0, .bool false] 39;have Hw2:=hid hw2;have hF2:=hF.grow hG2;have dA2:=hdA.grow hG2;have rV2:RdI w2 (fun _=>True) va d.value.cells.length vc d.value.cells:=(rV.weak fun _ _ _=>trivial).grow hG2;have Hdo:=hid (fun (W:World) (hW:Grow w2 W)=>Zmj (U:=fun _=>True) (S:=fun _=>True) (T:=fun _=>True) ⟨va,d.value.cells.length,vc,rfl,rV2.grow hW,oD⟩ (hvX W (hG2.trans hW)) (hvY W (hG2.trans hW)) (Hbd.out d hdm) hbX hbY hop);have hcb:cnt<=12:=(by have:=Ziv (stK kn) n;omega);have Hc:=hid hc;have Hk1:=hid hk1;have Hk2:=hid hk2;have HR:=hid hR;have Hdm:=hid hdm;clear hx1 hx2 hopx hw2 hvX hvY hbX hbY rV rV2 hdA hc hk1 hk2 hR hdr hdi Hskip hop hop0 hop2;go_wp2;rw[←Hw2.out];refine ZF (S:=(Grow w2)) (last:=10) [([0,1,2,3,4,5,6,7],some 8),([9],some 10)] Zm (by kernel_rfl) (fun _ _ _ _ _ h=>h) (Grow.refl _).drew ?_;show wpQuiet _ _ _ _ [_,_,_,_,_,_,_,_] _;(repeat (first |(go_big_quiet_want;(first |refine ZH Zao rfl rfl (fun w' hG=>dA2.grow hG) ?_|refine ZC (cs:= #[Yv Yi (rsM (res k1)).rows,Yv Yi (rsM (res k1)).cols, .slice xa (rsM (res k1)).cells.length xc, .bool (res k1).isSome]) ZbA rfl rfl (fun w' hG=>bX.grow hG) ?_|refine ZC (cs:= #[Yv Yi 0,Yv Yi 0, .slice none 0 0, .bool false]) ZbA rfl rfl (fun w' hG=>bY.grow hG) ?_);go_big_quiet_on;simp only[putP])|go_big_quiet_step (exact fun _=>rfl)));refine wpQuiet_nil ?_;refine Zx rfl (fun K hK=> ?_);go_wp2_with fail;refine (Hdo.out _ (Grow.refl w2).drew).mono ?_;rintro e w3 ⟨rv,rfl,⟨a3,c3',rfl,rdv,okv⟩,hG3⟩;have hGa:=(Grow.refl w2).drew.trans hG3;go_wp2_with fail;refine hK _ _ ((fun _=>hGa)) ?_;clear hK K;show wpQuiet _ _ _ _ [_] _;(try (conv=>arg 6;simp only[putP]));(repeat (first |(go_big_quiet_want;(first |refine ZH Zao rfl rfl (fun w' hG=>dA2.grow hG) ?_|refine ZC (cs:= #[Yv Yi (rsM (res k1)).rows,Yv Yi (rsM (res k1)).cols, .slice xa (rsM (res k1)).cells.length xc, .bool (res k1).isSome]) ZbA rfl rfl (fun w' hG=>bX.grow hG) ?_|refine ZC (cs:= #[Yv Yi 0,Yv Yi 0, .slice none 0 0, .bool false]) ZbA rfl rfl (fun w' hG=>bY.grow hG) ?_);go_big_quiet_on;simp only[putP])|go_big_quiet_step (exact fun _=>rfl)));refine wpQuiet_nil ?_;refine Zx rfl (fun K hK=> ?_);have hF3:=hF2.grow hGa;have E4:=hF3.setRes (fun q hq e=>(hsep q hq).1 (by rw[e];rfl)) hlti (r:=doR d ((res k1)) (rs0)) (a:=a3) (c:=c3') (rdv.weak fun q _ hq=>hSz q (by have:=hKw.size;have:=hG2.size;simp at hq;omega)) ⟨okv,hbr⟩;have rg0:=hF3.oR.free (i*4);have rg1:=hF3.oR.free (i*4+1);have rg2:=hF3.oR.free (i*4+2);have rg3:=hF3.oR.free (i*4+3);simp only at rg0 rg1 rg2 rg3;obtain ⟨s1,s2,⟨rq0,rq1,rq2,rq3⟩, -⟩:=hF3.resC hlti;have hlrb:=hF3.oR.lt (g:=rb) rfl;clear rf0 rf1 rf2 rf3;generalize doR d ((res k1)) (rs0)=rr at *;have hK3:Keep (fun q=>blk (some (⟨rb,0,none⟩:Addr))≠some q/\blk (some (⟨kb,0,none⟩:Addr))≠some q) w w3:=hKw.trans ((hG2.trans hGa).any.mono fun _ _ _=>trivial);have hnrb: ¬ (blk (some (⟨rb,0,none⟩:Addr))≠some rb/\blk (some (⟨kb,0,none⟩:Addr))≠some rb):=fun e=>e.1 rfl;have hK4:=(((hK3.setCell (p:=⟨rb,i*4,none⟩) (fun _=>hnrb) (Yv Yi (rsM rr).rows)).setCell (p:=⟨rb,i*4+1,none⟩) (fun _=>hnrb) (Yv Yi (rsM rr).cols)).setCell (p:=⟨rb,i*4+2,none⟩) (fun _=>hnrb) (.slice a3 (rsM rr).cells.length c3')).setCell (p:=⟨rb,i*4+3,none⟩) (fun _=>hnrb) (.bool rr.isSome);go_wp2_with fail;refine hK _ _ ((fun h=>(h rfl).elim)) ?_;clear hK K;refine Z7 ?_;generalize hw4:((((w3.setCell ⟨rb,i*4,none⟩ (Yv Yi (rsM rr).rows)).setCell ⟨rb,i*4+1,none⟩ (Yv Yi (rsM rr).cols)).setCell ⟨rb,i*4+2,none⟩ (.slice a3 (rsM rr).cells.length c3')).setCell ⟨rb,i*4+3,none⟩ (.bool rr.isSome))=w4 at *;clear hw4 rg0 rg1 rg2 rg3 rq0 rq1 rq2 rq3 hlrb hF3 hF2 hF bX bY dA2 rdv okv k0 kf0;have kq:=E4.knC hlti;have kg:=E4.oK.free i;simp only at kg;have hlkb:=E4.oK.lt (g:=kb) rfl;have E5:=E4.setKn (fun q hq e=>(hsep q hq).2 (by rw[e];rfl)) i true;have hK5:=hK4.setCell (p:=⟨kb,i,none⟩) (fun _ e=>e.2 rfl) (.bool true);have HI:=hid (FlI.take E5 Hlt.out hlti Hki.out HR.out (by rw[Hnd.out];exact HX.out) Hopv.out Hc.out Hk1.out Hk2.out hK5);clear E4 E5 hK4 hK5;go_wp2;go_roundw;case rel=>exact ⟨i+1,cnt+1,by omega,by go_num,by go_num,HI.out⟩
          case measure=>simp[intOf];omega
         ·have h12:d.op=1\/d.op=2:=(by omega);have hin:inB d.op 1 2=true:=(by unfold inB;simp;omega);go_wp2_with fail;refine (Zbg _ _ _ _).mono ?_;rintro e _ ⟨rfl,rfl⟩;rw[hin];clear hin;by_cases hB:Zj l d.b<0
          ·have eb:Zj l d.b= -1:=(by have:=(Zce (fun x:Dfn=>x.name.toList==d.b.toList) l).1;have: -1<=Zj l d.b:=this;omega);have HSk:=hid (Hskip.out (.inr (by rw[Hnd.out];exact Zhr Hln.out hdi (Znv h12) (.inl hB))));rw[eb];clear hF hR hc hk1 hk2 hKw Hskip hdr hdi rV hdm hop hop0 hop2 hA h0 hopx hdA ek1 hkk hvX hbX rX eb hB h12 h2;go_wp2;go_roundw;case rel=>exact ⟨i+1,cnt,by omega,by go_num,rfl,HSk.out⟩
           case measure=>simp[intOf];omega
          ·obtain ⟨k2,ek2⟩: ∃ k:Nat,Zj l d.b=(k:Int):=⟨_,(Int.toNat_of_nonneg (by omega)).symm⟩;have hk2n:k2<n:=(by have:=ZiN ek2;rw[Hln.out] at this;exact this);have kc2:=hF.knC hk2n;rw[ek2];cases hkk2:kn k2 with
           |false=>
            have HSk:=hid (Hskip.out (.inr (by rw[Hnd.out];exact Zhr Hln.out hdi (Znv h12) (.inr ⟨k2,ek2,hkk2⟩))));rw[hkk2] at kc2;clear hF hR hc hk1 hk2 hKw Hskip hdr hdi rV hdm hop hop0 hop2 hA h0 hopx hdA ek1 hkk hvX hbX rX hB h12 h2 ek2 hkk2;go_wp2;go_roundw;case rel=>exact ⟨i+1,cnt,by omega,by go_num,rfl,HSk.out⟩
            case measure=>simp[intOf];omega
           |true=>
            rw[hkk2] at kc2;obtain ⟨ya,yc,⟨ry0,ry1,ry2,ry3⟩,rY⟩:=hF.resC hk2n;have hvY: ∀ W:World,Grow wr W->VRs W (fun _=>True) (.agg #[Yv Yi (rsM (res k2)).rows,Yv Yi (rsM (res k2)).cols, .slice ya (rsM (res k2)).cells.length yc, .bool (res k2).isSome]) (res k2):=fun W hW=>⟨ya,yc,rfl,(rY.weak fun _ _ _=>trivial).grow hW,(hF.ok k2 hk2n).1⟩;have hbY:=(hF.ok k2 hk2n).2;obtain ⟨xs,hx1,hx2⟩:=ZhY (kn:=kn) (res:=res) (x:=res k1) (y:=res k2) hdi hop.1 (fun _=>⟨k1,ek1,hkk,rfl⟩) (fun _=>⟨k2,ek2,hkk2,rfl⟩);clear ek1 hkk hA ek2 hkk2 hB h2 h12 h0;have HX:=hid hx1;have Hopv:=hid (show op i xs=doR d ((res k1)) ((res k2)) by rw[hopx xs,hx2]);have hbr:=Zku Hbd.out hdm ((res k1)) ((res k2));obtain ⟨w2,hw2,hG2,bX,bY, -⟩:=al2 wr #[Yv Yi (rsM (res k1)).rows,Yv Yi (rsM (res k1)).cols, .slice xa (rsM (res k1)).cells.length xc, .bool (res k1).isSome] 39 #[Yv Yi (rsM (res k2)).rows,Yv Yi (rsM (res k2)).cols, .slice ya (rsM (res k2)).cells.length yc, .bool (res k2).isSome] 39;have Hw2:=hid hw2;have hF2:=hF.grow hG2;have dA2:=hdA.grow hG2;have rV2:RdI w2 (fun _=>True) va d.value.cells.length vc d.value.cells:=(rV.weak fun _ _ _=>trivial).grow hG2;have Hdo:=hid (fun (W:World) (hW:Grow w2 W)=>Zmj (U:=fun _=>True) (S:=fun _=>True) (T:=fun _=>True) ⟨va,d.value.cells.length,vc,rfl,rV2.grow hW,oD⟩ (hvX W (hG2.trans hW)) (hvY W (hG2.trans hW)) (Hbd.out d hdm) hbX hbY hop);have hcb:cnt<=12:=(by have:=Ziv (stK kn) n;omega);have Hc:=hid hc;have Hk1:=hid hk1;have Hk2:=hid hk2;have HR:=hid hR;have Hdm:=hid hdm;clear hx1 hx2 hopx hw2 hvX hvY hbX hbY rV rV2 hdA hc hk1 hk2 hR hdr hdi Hskip hop hop0 hop2;go_wp2;rw[←Hw2.out];refine ZF (S:=(Grow w2)) (last:=10) [([0,1,2,3,4,5,6,7],some 8),([9],some 10)] Zm (by kernel_rfl) (fun _ _ _ _ _ h=>h) (Grow.refl _).drew ?_;show wpQuiet _ _ _ _ [_,_,_,_,_,_,_,_] _;(repeat (first |(go_big_quiet_want;(first |refine ZH Zao rfl rfl (fun w' hG=>dA2.grow hG) ?_|refine ZC (cs:= #[Yv Yi (rsM (res k1)).rows,Yv Yi (rsM (res k1)).cols, .slice xa (rsM (res k1)).cells.length xc, .bool (res k1).isSome]) ZbA rfl rfl (fun w' hG=>bX.grow hG) ?_|refine ZC (cs:= #[Yv Yi (rsM (res k2)).rows,Yv Yi (rsM (res k2)).cols, .slice ya (rsM (res k2)).cells.length yc, .bool (res k2).isSome]) ZbA rfl rfl (fun w' hG=>bY.grow hG) ?_);go_big_quiet_on;simp only[putP])|go_big_quiet_step (exact fun _=>rfl)));refine wpQuiet_nil ?_;refine Zx rfl (fun K hK=> ?_);go_wp2_with fail;refine (Hdo.out _ (Grow.refl w2).drew).mono ?_;rintro e w3 ⟨rv,rfl,⟨a3,c3',rfl,rdv,okv⟩,hG3⟩;have hGa:=(Grow.refl w2).drew.trans hG3;go_wp2_with fail;refine hK _ _ ((fun _=>hGa)) ?_;clear hK K;show wpQuiet _ _ _ _ [_] _;(try (conv=>arg 6;simp only[putP]));(repeat (first |(go_big_quiet_want;(first |refine ZH Zao rfl rfl (fun w' hG=>dA2.grow hG) ?_|refine ZC (cs:= #[Yv Yi (rsM (res k1)).rows,Yv Yi (rsM (res k1)).cols, .slice xa (rsM (res k1)).cells.length xc, .bool (res k1).isSome]) ZbA rfl rfl (fun w' hG=>bX.grow hG) ?_|refine ZC (cs:= #[Yv Yi (rsM (res k2)).rows,Yv Yi (rsM (res k2)).cols, .slice ya (rsM (res k2)).cells.length yc, .bool (res k2).isSome]) ZbA rfl rfl (fun w' hG=>bY.grow hG) ?_);go_big_quiet_on;simp only[putP])|go_big_quiet_step (exact fun _=>rfl)));refine wpQuiet_nil ?_;refine Zx rfl (fun K hK=> ?_);have hF3:=hF2.grow hGa;have E4:=hF3.setRes (fun q hq e=>(hsep q hq).1 (by rw[e];rfl)) hlti (r:=doR d ((res k1)) ((res k2))) (a:=a3) (c:=c3') (rdv.weak fun q _ hq=>hSz q (by have:=hKw.size;have:=hG2.size;simp at hq;omega)) ⟨okv,hbr⟩;have rg0:=hF3.oR.free (i*4);have rg1:=hF3.oR.free (i*4+1);have rg2:=hF3.oR.free (i*4+2);have rg3:=hF3.oR.free (i*4+3);simp only at rg0 rg1 rg2 rg3;obtain ⟨s1,s2,⟨rq0,rq1,rq2,rq3⟩, -⟩:=hF3.resC hlti;have hlrb:=hF3.oR.lt (g:=rb) rfl;clear rf0 rf1 rf2 rf3;generalize doR d ((res k1)) ((res k2))=rr at *;have hK3:Keep (fun q=>blk (some (⟨rb,0,none⟩:Addr))≠some q/\blk (some (⟨kb,0,none⟩:Addr))≠some q) w w3:=hKw.trans ((hG2.trans hGa).any.mono fun _ _ _=>trivial);have hnrb: ¬ (blk (some (⟨rb,0,none⟩:Addr))≠some rb/\blk (some (⟨kb,0,none⟩:Addr))≠some rb):=fun e=>e.1 rfl;have hK4:=(((hK3.setCell (p:=⟨rb,i*4,none⟩) (fun _=>hnrb) (Yv Yi (rsM rr).rows)).setCell (p:=⟨rb,i*4+1,none⟩) (fun _=>hnrb) (Yv Yi (rsM rr).cols)).setCell (p:=⟨rb,i*4+2,none⟩) (fun _=>hnrb) (.slice a3 (rsM rr).cells.length c3')).setCell (p:=⟨rb,i*4+3,none⟩) (fun _=>hnrb) (.bool rr.isSome);go_wp2_with fail;refine hK _ _ ((fun h=>(h rfl).elim)) ?_;clear hK K;refine Z7 ?_;generalize hw4:((((w3.setCell ⟨rb,i*4,none⟩ (Yv Yi (rsM rr).rows)).setCell ⟨rb,i*4+1,none⟩ (Yv Yi (rsM rr).cols)).setCell ⟨rb,i*4+2,none⟩ (.slice a3 (rsM rr).cells.length c3')).setCell ⟨rb,i*4+3,none⟩ (.bool rr.isSome))=w4 at *;clear hw4 rg0 rg1 rg2 rg3 rq0 rq1 rq2 rq3 hlrb hF3 hF2 hF bX bY dA2 rdv okv k0 kf0;have kq:=E4.knC hlti;have kg:=E4.oK.free i;simp only at kg;have hlkb:=E4.oK.lt (g:=kb) rfl;have E5:=E4.setKn (fun q hq e=>(hsep q hq).2 (by rw[e];rfl)) i true;have hK5:=hK4.setCell (p:=⟨kb,i,none⟩) (fun _ e=>e.2 rfl) (.bool true);have HI:=hid (FlI.take E5 Hlt.out hlti Hki.out HR.out (by rw[Hnd.out];exact HX.out) Hopv.out Hc.out Hk1.out Hk2.out hK5);clear E4 E5 hK4 hK5;go_wp2;go_roundw;case rel=>exact ⟨i+1,cnt+1,by omega,by go_num,by go_num,HI.out⟩
            case measure=>simp[intOf];omega
    ·obtain rfl:i=n:=(by omega);obtain ⟨res,sv,kn,hF,hR,hc,hk1,hk2,hKw⟩:=hI;have HI2:=hid (show FlI w S ra rc ka kc i nd op res0 kn0 (r+1) 0 cnt wr from ⟨res,sv,kn,hF,hR.next,hc,hk1,hk2,hKw⟩);clear hF hR hc hk1 hk2 hKw;go_wp2;go_roundw;case rel=>exact ⟨r+1,cnt,by omega,by go_num,rfl,HI2.out⟩
     case measure=>simp[intOf];omega
  ·obtain rfl:r=n:=(by omega);go_wp2;go_ret;exact ⟨cnt,rfl,HI.out⟩
theorem ZgF (n:Nat):(madeCells #[Value.bool false] n).toList=bls (fun _=>false) n:=by
 rw[toList_madeCells_one];unfold bls;apply List.ext_getElem
 ·simp
 ·intro i h1 h2;simp
theorem ZpG (hl:l.length=n) (hs:Zp l=true) (hR:Rnd (ndL l) (opL opF l) n n 0 kn res) (hk: ∀ j,j<n->kn j=false->res j=rs0):ZX l=rsL res n:=by
 unfold ZX rsL;rw[if_pos hs,hl];refine List.map_congr_left fun j hj=> ?_;have hj':=List.mem_range.1 hj;have h1:=hR.done j hj';unfold Zdu evL;rw[hl,h1];cases h:kn j with
 |true=>rw[if_pos rfl];rfl
 |false=>rw[if_neg (by simp),hk j hj' h];rfl
theorem ZpO {cap:Nat} (h:RdD w D a n cap l) (hn:n<=1048576) (hcl: ∀ d∈l,d.value.cells.length<=2097152):
  Calls Tryz.prog 16 #[.slice a n cap] w fun e w'=> ∃ a' c',e= .returned (.slice a' (ZX l).length c')/\RdR w' (fun q=>w.heap.size<=q) a' (ZX l).length c' (ZX l)/\Grow w w'/\ ∀ r∈ZX l,ROk r/\(rsM r).cells.length<=1048576:=by
 have hl:=h.len;go_enter Tryz.func16,Tryz.ntmps16;go_wp2_with fail;refine (ZaV a n cap l w h hn hcl).mono ?_;rintro e w1 ⟨rfl,hG1⟩;cases hs:Zp l with
 |false=>
  have Hs:=hid hs;clear hs;go_wp2_with fail;go_ret;have e0:ZX l=[]:=by unfold ZX;rw[Hs.out];rfl
  rw[e0];exact ⟨_,_,rfl,⟨⟨[],rfl,(Own.freshAt (e:=39) (sz:=4) (cs:= #[]) (n:=0) rfl (by unfold maxLen;omega) rfl).row fun q hq=>by have:=hG1.size;simp at hq;omega,fun _ _ h=>by simp[ZaQ] at h⟩,rfl,fun _ h=>by cases h⟩,hG1.alloc _ _,fun _ h=>by cases h⟩
 |true=>
  have Hs:=hid hs;clear hs;have hn12:n<=12:=by have:=(Zb8 Hs.out).2;omega
  have h1:=h.grow hG1;have hmk:=T_ress.make (n:=n) (by omega) (by unfold maxLen;omega);have hmk2:=T_boolss.make (n:=n) (by omega) (by unfold maxLen;omega);obtain ⟨w3,hw3,hG3, -, -,hs3⟩:=al2 w1 (madeCells #[Yv Yi 0,Yv Yi 0, .slice none 0 0, .bool false] (n*4)) 39 (madeCells #[.bool false] n) 4;have oR:Own w3 39 4 (some ⟨w1.heap.size,0,none⟩) n n (ZbJ (rsL (fun _=>rs0) n) (svL (fun _=> .slice none 0 0) n)):=by have:=Own.freshAt (w:=w1) (e:=39) (sz:=4) (cs:=madeCells #[Yv Yi 0,Yv Yi 0, .slice none 0 0, .bool false] (n*4)) (n:=n) rfl (by unfold maxLen;omega) (by simp[madeCells]);rw[ZeH] at this;rw[hw3];exact this.grow ((Grow.refl _).alloc _ _)
  have oK:Own w3 4 1 (some ⟨w1.heap.size+1,0,none⟩) n n (bls (fun _=>false) n):=by have:=Own.freshAt (w:=w1.alloc (.cells (madeCells #[Yv Yi 0,Yv Yi 0, .slice none 0 0, .bool false] (n*4)) 39)) (e:=4) (sz:=1) (cs:=madeCells #[.bool false] n) (n:=n) (g:=w1.heap.size+1) (by simp) (by unfold maxLen;omega) (by simp[madeCells]);rw[ZgF] at this;rw[hw3];exact this
  have hval:RdCells w3 (fun q=>w3.heap.size<=q) (svL (fun _=> .slice none 0 0) n) (ZaQ (rsL (fun _=>rs0) n)):=fun i xs hi=>by have hk:i<n:=(by have h2:=(List.getElem?_eq_some_iff.1 hi).1;simpa [ZaQ,rsL] using h2);have h3:(rsL (fun _=>rs0) n)[i]? =some rs0:=Z9 (fun _=>rs0) hk;rw[Zci h3] at hi;obtain rfl:=Option.some.inj hi;exact ⟨none,0,Z9 (fun _=>Value.slice none 0 0) hk,RdI.nilw _⟩
  have hF:FlW w3 (fun q=>w3.heap.size<=q) (some ⟨w1.heap.size,0,none⟩) n (some ⟨w1.heap.size+1,0,none⟩) n n (fun _=>rs0) (fun _=> .slice none 0 0) (fun _=>false):=
   ⟨oR,oK,hval,fun _ _=>⟨by unfold ROk rsM rs0 rsZ I64;simp,by simp[rsM,rs0,rsZ]⟩⟩
  have hdd:RdD w3 (fun q=>D q/\q<w.heap.size) a n cap l:=((h.weak (T:=fun q=>D q/\q<w.heap.size) fun q hlt hq=>⟨hq,hlt⟩).grow hG1).grow hG3;have hs1:=hG1.size;have Hw3:=hid hw3;have HF:=hid hF;have Hl:=hid hl;clear hw3 oR oK hval hF hl h h1 hcl;go_wp2_with fail;rw[←Hw3.out];refine (ZlH a cap l _ _ n n n _ _ _ (ndL l) (opL opF l) w3 hdd Hs.out HF.out ?_ ?_ (fun q hq=>hq) ?_ (fun j _ _=>⟨rfl,fun _=>rfl⟩) Rnd.start (Zdp Hs.out)).mono ?_
  ·intro q hq;exact ⟨fun e=>by simp at e;omega,fun e=>by simp at e;omega⟩
  ·intro q hq;exact ⟨fun e=>by have:=hq.2;simp at e;omega,fun e=>by have:=hq.2;simp at e;omega⟩
  ·intro i hi k hk;have:=ZeN (l:=l) i (by rw[Hl.out];exact hi) k hk;rw[Hl.out] at this;exact this
  rintro e w4 ⟨cnt,rfl,res,sv,kn,hF4,hR4, -, -,hk2,hK4⟩;have e1:=ZpG Hl.out Hs.out hR4 hk2;have e2:(ZX l).length=n:=by rw[e1];simp[rsL]
  have hok: ∀ r∈ZX l,ROk r/\(rsM r).cells.length<=1048576:=fun r hr=>by rw[e1] at hr;obtain ⟨j,hj,rfl⟩:=List.mem_map.1 hr;exact hF4.ok j (List.mem_range.1 hj)
  have hG:Grow w w4:=(hG1.trans hG3).keep hK4 fun q hq=>⟨fun e=>by simp at e;omega,fun e=>by simp at e;omega⟩;have hrd:RdR w4 (fun q=>w.heap.size<=q) (some ⟨w1.heap.size,0,none⟩) n n (ZX l):=by
   refine ⟨⟨svL sv n,by rw[e2];simp[svL], ?_, ?_⟩,e2,fun r hr=>(hok r hr).1⟩
   ·rw[e1];exact hF4.oR.row fun q hq=>by simp at hq;omega
   ·rw[e1];exact hF4.val.weak fun q _ hq=>by omega
  have HE:=hid e2;have Hrd:=hid hrd;have Hok:=hid hok;clear e1 e2 hF4 hR4 hk2 hK4 HF hrd hok;go_wp2;go_ret;exact ⟨_,_,by rw[HE.out];rfl,by rw[HE.out];exact Hrd.out,hG,Hok.out⟩

end Go.Proofs.YtgeoehnbpkediaaGreat
