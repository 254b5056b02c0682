/- Looking for values by rounds: plain Lean, no program. -/
import Derived.Test.YtgjefeiddfjjnaaGreatDoorZAddS
import Derived.Test.YtgjefeiddfjjnaaGreatDoorZFind
set_option maxHeartbeats 8000000
set_option maxRecDepth 100000
namespace Go.Proofs.YtgjefeiddfjjnaaGreatDoor
open Go.RowKit
open Lib (hid)
open Go.Value renaming int->Yv
open Go.IntKind renaming i64->Yi
open Bool renaming and_eq_true->JQ
open Grow renaming refl->JH
open List renaming map_congr_left->Lu,mem_map->Kc,mem_range->JW
open Option.some renaming inj->JJ
open Go.Proofs.Tryz
variable {D S:Nat->Prop} {a ka ra:Option Addr} {b i k kc n rc:Nat} {d:Dfn} {kn:Nat->Bool} {l:List Dfn} {res:Nat->Rs} {s:ByteArray} {sv:Nat->Value} {w w':World}
section
variable {R:Type} {nd:Nat->List (Option Nat)} {op:Nat->List R->R} {n:Nat}
structure Rnd (nd:Nat->List (Option Nat)) (op:Nat->List R->R) (n r i:Nat) (kn:Nat->Bool) (res:Nat->R):Prop where
 ok: ∀ j,j<n->kn j=true->ev nd op n j=some (res j)
 all: ∀ j x,j<n->ev nd op r j=some x->kn j=true
 part: ∀ j x,j<i->j<n->ev nd op (r+1) j=some x->kn j=true
theorem Rnd.start {res:Nat->R}:Rnd nd op n 0 0 (fun _=>false) res:=⟨fun _ _ h=>Ω,fun _ _ _ h=>Ω,fun _ _ h=>I⟩
theorem Rnd.next {r:Nat} {kn:Nat->Bool} {res:Nat->R} (h:Rnd nd op n r n kn res):Rnd nd op n (r+1) 0 kn res:=
 ⟨h.ok,fun j x a b=>h.part j x a a b,fun _ _ h=>I⟩
theorem Rnd.skip {r i:Nat} {kn:Nat->Bool} {res:Nat->R} (h:Rnd nd op n r i kn res) (hs:kn i=true\/ ∃ o,o∈nd i/\ ∀ k,o=some k->k<n/\kn k=false):Rnd nd op n r (i+1) kn res:=by
 refine ⟨h.ok,h.all,fun j x m a d=> ?_⟩;by_cases e:j=i
 ·subst e;rcases hs with b|⟨o,g,b⟩
  ·exact b
  ·obtain ⟨k,y,e,l⟩:=ZeS d g;obtain ⟨c,f⟩:=b k e;rw[h.all k y c l] at f;cases f
 ·exact h.part j x I a d
theorem Rnd.take {r i:Nat} {kn:Nat->Bool} {res:Nat->R} (h:Rnd nd op n r i kn res) (hnd: ∀ i,i<n-> ∀ k,some k∈nd i->k<n) (hi:i<n) {xs:List R} (hx:(nd i).map (fun o=>o.bind fun k=>if kn k=true then some (res k) else none)=xs.map some):
  Rnd nd op n r (i+1) (fun j=>if j=i then true else kn j) (fun j=>if j=i then op i xs else res j):=by
 have g:ev nd op n i=some (op i xs):=Zsv hnd hi (by
  rw[←hx];refine Lu fun o c=> ?_;cases o with
  |none=>rfl
  |some k=>
   show ev nd op n k=if kn k=true then some (res k) else none;have d:(if kn k=true then some (res k) else none)∈xs.map some:=(by rw[←hx];exact Kc.2 ⟨some k,c,rfl⟩);by_cases e:kn k=true
   ·rw[if_pos e];exact h.ok k (hnd i hi k c) e
   ·rw[if_neg e] at d;obtain ⟨y, -,l⟩:=Kc.1 d;cases l)
 refine ⟨fun j a f=> ?_,fun j x a hx=> ?_,fun j x a b hx=> ?_⟩
 ·by_cases e:j=i
  ·subst e;rw[if_pos rfl];exact g
  ·rw[if_neg e] at f ⊢;exact h.ok j a f
 ·by_cases e:j=i
  ·rw[if_pos e]
  ·rw[if_neg e];exact h.all j x a hx
 ·by_cases e:j=i
  ·rw[if_pos e]
  ·rw[if_neg e];exact h.part j x I b hx
theorem Rnd.done {kn:Nat->Bool} {res:Nat->R} (h:Rnd nd op n n 0 kn res): ∀ j,j<n->ev nd op n j=if kn j=true then some (res j) else none:=fun j a=>by
 by_cases e:kn j=true
 ·rw[if_pos e];exact h.ok j a e
 ·rw[if_neg e];cases b:ev nd op n j with
  |none=>rfl
  |some x=>exact absurd (h.all j x a b) e
end
def bls (kn:Nat->Bool) (n:Nat):List Value:=(List.range n).map fun j=>Value.bool (kn j)
def ZhT (kn:Nat->Bool) (i:Nat) (b:Bool):Nat->Bool:=fun j=>if j=i then b else kn j
theorem ZvE (kn:Nat->Bool) (n i:Nat) (b:Bool):(bls kn n).set i (.bool b)=bls (ZhT kn i b) n:=by
 unfold bls;rw[Zgt];refine Lu fun j _=> ?_;unfold ZhT;by_cases e:j=i<;>simp[e]
def stK (kn:Nat->Bool):Nat->Nat:=fun j=>if kn j=true then 2 else 0
theorem Zvy (hi:i<n) (h:kn i=false):two (stK (ZhT kn i true)) n=two (stK kn) n+1:=by
 have e:stK (ZhT kn i true)=ZQ (stK kn) i 2:=by
  funext j;unfold stK ZhT ZQ;by_cases e:j=i
  ·rw[if_pos e,if_pos e];rfl
  ·rw[if_neg e,if_neg e]
 rw[e];have a:=Zjo (st:=stK kn) (i:=i) (v:=2) (n:=n);have b:stK kn i=0:=by unfold stK;rw[h];rfl
 rw[if_neg I,if_pos ⟨hi,rfl⟩] at a;omega
theorem Zkz (st:Nat->Nat): ∀ n,two st n<=n
 |0=>Nat.le_refl _
 |n+1=>by have:=Zkz st n;simp only[two];split<;>omega
theorem T_boolss:SlT prog 54 4 (.bool false) 1 1:=SlT.mk' underlying54 Ξ rfl
structure FlW (w:World) (S:Nat->Prop) (ra:Option Addr) (rc:Nat) (ka:Option Addr) (kc n:Nat) (res:Nat->Rs) (sv:Nat->Value) (kn:Nat->Bool):Prop where
 oR:Own w 41 4 ra n rc (Zdd (rsL res n) (svL sv n))
 oK:Own w 4 1 ka n kc (bls kn n)
 val:RdCells w S (svL sv n) (ZbO (rsL res n))
 ok: ∀ j,j<n->ROk (res j)/\(rsM (res j)).cells.length<=1048576
theorem FlW.keep {T:Nat->Prop} (h:FlW w S ra rc ka kc n res sv kn) (k:Keep T w w') (hr: ∀ q,blk ra=some q->T q) (hk: ∀ q,blk ka=some q->T q) (hS: ∀ q,q<w.heap.size->S q->T q):FlW w' S ra rc ka kc n res sv kn:=
 ⟨h.oR.keep k (fun q a _=>hr q a),h.oK.keep k (fun q a _=>hk q a),h.val.keep k hS,h.ok⟩
theorem FlW.grow (h:FlW w S ra rc ka kc n res sv kn) (k:Grow w w'):FlW w' S ra rc ka kc n res sv kn:=
 h.keep k (fun _ _=>trivial) (fun _ _=>trivial) fun _ _ _=>trivial
theorem FlW.ne (h:FlW w S ra rc ka kc n res sv kn): ∀ q,blk ra=some q->blk ka≠some q:=Own.ne_own h.oR h.oK Φ
theorem FlW.knAt (h:FlW w S ra rc ka kc n res sv kn) (hi:i<n):
  ∃ b,ka=some ⟨b,0,none⟩/\b<w.heap.size/\w.cell? ⟨b,i,none⟩=some (.bool (kn i))/\w.frozen? ⟨b,i,none⟩=false:=by
 cases ka with
 |none=>have:=h.oK.nil rfl;have:=h.oK.le;omega
 |some p=>refine ⟨p.block,by rw[←(h.oK.block p rfl).1],h.oK.lt rfl,h.oK.cell (j:=i) ?_,h.oK.free i⟩;unfold bls;simp[hi]
theorem FlW.setKn (h:FlW w S ra rc (some ⟨b,0,none⟩) kc n res sv kn) (hS: ∀ q,S q->q≠b) (i:Nat) (v:Bool):
  FlW (w.setCell ⟨b,i,none⟩ (.bool v)) S ra rc (some ⟨b,0,none⟩) kc n res sv (ZhT kn i v):=by
 have c:Keep (fun q=>q≠b) w (w.setCell ⟨b,i,none⟩ (.bool v)):=kS;refine ⟨h.oR.keep c (fun q a _ e=>h.ne q a ξ), ?_,h.val.keep c fun q _ a=>hS q a,h.ok⟩;have d:=h.oK.set i (.bool v);rw[ZvE] at d;exact d
theorem FlW.resAt (h:FlW w S ra rc ka kc n res sv kn) (hi:i<n):
  ∃ b a1 c1,ra=some ⟨b,0,none⟩/\b<w.heap.size/\RAt w b (i*4) (res i) (.slice a1 (rsM (res i)).cells.length c1)/\RdI w S a1 (rsM (res i)).cells.length c1 (rsM (res i)).cells/\(w.frozen? ⟨b,i*4,none⟩=false/\w.frozen? ⟨b,i*4+1,none⟩=false/\w.frozen? ⟨b,i*4+2,none⟩=false/\w.frozen? ⟨b,i*4+3,none⟩=false):=by
 cases ra with
 |none=>have:=h.oR.nil rfl;have:=h.oR.le;omega
 |some p=>
  have c:(rsL res n)[i]? =some (res i):=Zar res hi;have d:(svL sv n)[i]? =some (sv i):=Zar sv hi;obtain ⟨a1,c1,e,f⟩:=h.val i _ (Zcs c);have g:sv i= .slice a1 (rsM (res i)).cells.length c1:=by rw[d] at e;exact JJ e
  have a: ∀ j v,j<4->(ZcX (res i) (.slice a1 (rsM (res i)).cells.length c1))[j]? =some v->w.cell? ⟨p.block,i*4+j,none⟩=some v:=fun j v k l=>
   h.oR.cell (by rw[Zel c d k,g];exact l)
  exact ⟨p.block,a1,c1,by rw[←(h.oR.block p rfl).1],h.oR.lt rfl,⟨a 0 _ I rfl,a 1 _ I rfl,a 2 _ I rfl,a 3 _ I rfl⟩,f,h.oR.free _,h.oR.free _,h.oR.free _,h.oR.free _⟩
theorem FlW.setRes (h:FlW w S (some ⟨b,0,none⟩) rc ka kc n res sv kn) (hS: ∀ q,S q->q≠b) (hi:i<n) {r:Rs} {c:Nat} (hr:RdI w S a (rsM r).cells.length c (rsM r).cells) (hok:ROk r/\(rsM r).cells.length<=1048576):
  FlW ((((w.setCell ⟨b,i*4,none⟩ (Yv Yi (rsM r).rows)).setCell ⟨b,i*4+1,none⟩ (Yv Yi (rsM r).cols)).setCell ⟨b,i*4+2,none⟩ (.slice a (rsM r).cells.length c)).setCell ⟨b,i*4+3,none⟩ (.bool r.isSome)) S (some ⟨b,0,none⟩) rc ka kc n (Zah res i r) (Zah sv i (.slice a (rsM r).cells.length c)) kn:=by
 have f:Keep (fun q=>q≠b) w ((((w.setCell ⟨b,i*4,none⟩ (Yv Yi (rsM r).rows)).setCell ⟨b,i*4+1,none⟩ (Yv Yi (rsM r).cols)).setCell ⟨b,i*4+2,none⟩ (.slice a (rsM r).cells.length c)).setCell ⟨b,i*4+3,none⟩ (.bool r.isSome)):=
  kS
 refine ⟨?_,h.oK.keep f (fun q d _ e=>h.ne q ξ d),(h.val.putE hr).keep f fun q _ d=>hS q d,fun j hj=> ?_⟩
 ·exact GW
 ·exact Jv
theorem Zuv (h:l[i]? =some d):ndL l i=(Za5 d).map (Zdl l):=by unfold ndL;rw[h]
theorem Zf5 (h:Zn l s=(k:Int)):Zdl l s=some k:=by unfold Zdl;rw[if_pos I,h];rfl
theorem Ztz (h:Zn l s<0):Zdl l s=none:=by unfold Zdl;rw[if_neg I]
theorem Zln (h:Zn l s=(k:Int)):k<l.length:=ZjU (Zf5 h)
theorem Zjn (hl:l.length=n) (h:l[i]? =some d) (hs:s∈Za5 d) (hk:Zn l s<0\/ ∃ k:Nat,Zn l s=(k:Int)/\kn k=false): ∃ o,o∈ndL l i/\ ∀ k,o=some k->k<n/\kn k=false:=by
 refine ⟨Zdl l s,by rw[Zuv h];exact Kc.2 ⟨s,hs,rfl⟩,fun k a=> ?_⟩;rcases hk with b|⟨e,b,c⟩
 ·rw[Ztz b] at a;cases a
 ·rw[Zf5 b] at a;obtain rfl:=JJ a;exact ⟨by have:=Zln b;omega,c⟩
theorem Zrm (h:d.op≠0):d.a∈Za5 d:=by unfold Za5;rw[if_neg h];split<;>simp
theorem ZrY (h:d.op=1\/d.op=2):d.b∈Za5 d:=by unfold Za5;rw[if_neg I,if_pos h];simp
theorem ZtS {op:Int} (h:2<op) (a b c:Mat):opF op a b=opF op a c:=by
 have d: ¬ op=1:=I
 have e: ¬ op=2:=I
 unfold opF;simp only[if_neg d,if_neg e]
theorem ZjT {x y:Rs} (h:l[i]? =some d) (hop:0<=d.op)
  (ha:d.op≠0-> ∃ k:Nat,Zn l d.a=(k:Int)/\kn k=true/\x=res k) (hb:d.op=1\/d.op=2-> ∃ k:Nat,Zn l d.b=(k:Int)/\kn k=true/\y=res k):
  ∃ xs:List Rs,(ndL l i).map (fun o=>o.bind fun k=>if kn k=true then some (res k) else none)=xs.map some/\opL opF l i xs=doR d x y:=by
 have e: ∀ xs,opL opF l i xs=opD opF d xs:=fun xs=>by unfold opL;rw[h]
 rw[Zuv h];by_cases c:d.op=0
 ·refine ⟨[],by unfold Za5;rw[if_pos c];rfl, ?_⟩;rw[e];unfold opD doR;rw[if_pos c,if_pos c];rfl
 ·obtain ⟨f,q,g,rfl⟩:=ha c;by_cases n:d.op=1\/d.op=2
  ·obtain ⟨m,s,p,rfl⟩:=hb n;refine ⟨[res f,res m], ?_, ?_⟩
   ·unfold Za5;rw[if_neg c,if_pos n];simp[Zf5 q,Zf5 s,g,p]
   ·rw[e];unfold opD doR;rw[if_neg c,if_neg c];have: ¬ 2<d.op:=I;have j:([res f,res m].all Rs.isSome=true)↔((res f).isSome=true/\(2<d.op\/(res m).isSome=true)):=(by simp[this]);by_cases hb:[res f,res m].all Rs.isSome=true
    ·rw[if_pos hb,if_pos (j.1 hb)];rfl
    ·rw[if_neg hb,if_neg fun h=>hb (j.2 h)];rfl
  ·refine ⟨[res f], ?_, ?_⟩
   ·unfold Za5;rw[if_neg c,if_neg n];simp[Zf5 q,g]
   ·rw[e];unfold opD doR;rw[if_neg c,if_neg c];have r:2<d.op:=I;have j:([res f].all Rs.isSome=true)↔((res f).isSome=true/\(2<d.op\/y.isSome=true)):=(by simp[r]);by_cases hb:[res f].all Rs.isSome=true
    ·rw[if_pos hb,if_pos (j.1 hb)];exact congrArg Zke (ZtS r _ _ _)
    ·rw[if_neg hb,if_neg fun h=>hb (j.2 h)];rfl
theorem ZhU (h:Zaa l=true) (hs:s.toList.isEmpty=true):Zn l s= -1:=by
 have f:=Zc5 (fun d:Dfn=>d.name.toList==s.toList) l;refine Int.le_antisymm (Int.not_lt.1 fun i=> ?_) f.1;have b:=(Zgl (fun d:Dfn=>d.name.toList==s.toList) l).1 (show 0<=Zn l s by omega);rw[List.any_eq_true] at b;obtain ⟨d,g,c⟩:=b;have a:=(Zek h).1 d g;unfold Z9 at a;simp only[JQ] at a;have j:=((Zcx _).1 a.1).2.1;have e:d.name.toList=[]:=by rw[List.isEmpty_iff.1 hs] at c;simpa using c
 rw[toList_data] at e;have k:d.name.size=0:=by show d.name.data.size=0;rw[←Array.length_toList,e];rfl
 omega
theorem Zv9 (h:Zaa l=true) (hd:d∈l):(0<=d.op/\d.op<=9)/\(d.op=0->Zn l d.a= -1/\Zn l d.b= -1)/\(2<d.op->Zn l d.b= -1):=by
 have e:=(Zek h).1 d hd;unfold Z9 at e;simp only[JQ,decide_eq_true_eq] at e;obtain ⟨-,g,c⟩:=e;refine ⟨g,fun f=> ?_,fun f=> ?_⟩
 ·rw[if_pos f] at c;simp only[JQ] at c;exact ⟨ZhU h c.1,ZhU h c.2.1⟩
 ·rw[if_neg I,if_neg I] at c;simp only[JQ] at c;exact ZhU h c.2.1
def FlI (w:World) (S:Nat->Prop) (ra:Option Addr) (rc:Nat) (ka:Option Addr) (kc n:Nat) (nd:Nat->List (Option Nat)) (op:Nat->List Rs->Rs) (res0:Nat->Rs) (kn0:Nat->Bool) (r i cnt:Nat) (wr:World):Prop:=
 ∃ res sv kn,FlW wr S ra rc ka kc n res sv kn/\Rnd nd op n r i kn res/\cnt+two (stK kn0) n=two (stK kn) n/\(∀ j,j<n->kn0 j=true->kn j=true/\res j=res0 j)/\(∀ j,j<n->kn j=false->res j=res0 j)/\Keep (fun q=>blk ra≠some q/\blk ka≠some q) w wr
theorem FlW.knC (h:FlW w S ra rc (some ⟨b,0,none⟩) kc n res sv kn) (hi:i<n):w.cell? ⟨b,i,none⟩=some (.bool (kn i)):=
 h.oK.cell (j:=i) (by unfold bls;simp[hi])
theorem FlW.resC (h:FlW w S (some ⟨b,0,none⟩) rc ka kc n res sv kn) (hi:i<n):
  ∃ a1 c1,RAt w b (i*4) (res i) (.slice a1 (rsM (res i)).cells.length c1)/\RdI w S a1 (rsM (res i)).cells.length c1 (rsM (res i)).cells:=by
 obtain ⟨f,a1,c1,e, -,a,c, -⟩:=h.resAt hi;injection e with e;injection e with d;subst d;exact ⟨a1,c1,a,c⟩
theorem Zm7 (hbd: ∀ d∈l,d.value.cells.length<=1048576) (hd:d∈l) (x y:Rs):(rsM (doR d x y)).cells.length<=1048576:=by
 have b: ∀ o:Option Mat,(∀ m,o=some m->m.cells.length<=1048576)->(rsM (Zke o)).cells.length<=1048576:=fun o h=>by
  cases o with
  |none=>simp[rsM,Zke,rs0,rsZ]
  |some m=>exact h m rfl
 unfold doR;refine b _ fun m a=> ?_;split at a
 ·obtain rfl:=JJ a;exact hbd d hd
 ·split at a
  ·exact Zst a
  ·cases a
theorem FlI.take {w5:World} {r cnt:Nat} {nd:Nat->List (Option Nat)} {op:Nat->List Rs->Rs} {res0:Nat->Rs} {kn0:Nat->Bool} {v:Value} {rr:Rs} {xs:List Rs} (hF:FlW w5 S ra rc ka kc n (Zah res i rr) (Zah sv i v) (ZhT kn i true)) (hlt: ∀ i,i<n-> ∀ k,some k∈nd i->k<n) (hi:i<n) (hki:kn i=false) (hR:Rnd nd op n r i kn res)
  (hnd:(nd i).map (fun o=>o.bind fun k=>if kn k=true then some (res k) else none)=xs.map some) (hop:op i xs=rr) (hc:cnt+two (stK kn0) n=two (stK kn) n) (hk1: ∀ j,j<n->kn0 j=true->kn j=true/\res j=res0 j) (hk2: ∀ j,j<n->kn j=false->res j=res0 j) (hK:Keep (fun q=>blk ra≠some q/\blk ka≠some q) w w5):FlI w S ra rc ka kc n nd op res0 kn0 r (i+1) (cnt+1) w5:=by
 have d:=hR.take hlt hi hnd;rw[hop] at d;refine ⟨_,_,_,hF,d,by rw[Zvy hi hki];omega,fun j b h=> ?_,fun j b h=> ?_,hK⟩
 ·obtain ⟨c,f⟩:=hk1 j b h;have a:j≠i:=fun e=>by rw[e,hki] at c;cases c
  unfold ZhT Zah;rw[if_neg a,if_neg a];exact ⟨c,f⟩
 ·unfold ZhT at h;by_cases e:j=i
  ·rw[if_pos e] at h;cases h
  ·rw[if_neg e] at h;unfold Zah;rw[if_neg e];exact hk2 j b h
theorem ZuJ (da:Option Addr) (dc:Nat) (l:List Dfn) (ra ka:Option Addr) (rc kc n:Nat) (res0:Nat->Rs) (sv0:Nat->Value) (kn0:Nat->Bool) (nd:Nat->List (Option Nat)) (op:Nat->List Rs->Rs) (w:World)
  (hd:RdD w D da n dc l) (hs:Zaa l=true) (hF:FlW w S ra rc ka kc n res0 sv0 kn0) (hsep: ∀ q,S q->blk ra≠some q/\blk ka≠some q) (hdsep: ∀ q,D q->blk ra≠some q/\blk ka≠some q) (hSz: ∀ q,w.heap.size<=q->S q)
  (hlt: ∀ i,i<n-> ∀ k,some k∈nd i->k<n) (hnq: ∀ j,j<n->kn0 j=false->nd j=ndL l j/\ ∀ xs,op j xs=opL opF l j xs) (hR:Rnd nd op n 0 0 kn0 res0) (hbd: ∀ d∈l,d.value.cells.length<=1048576):
  Calls prog 21 #[.slice da n dc, .slice ra n rc, .slice ka n kc] w fun e w'=> ∃ cnt:Nat,e= .returned (Yv Yi (cnt:Int))/\FlI w S ra rc ka kc n nd op res0 kn0 n 0 cnt w':=by
 have ax:=hd.len;have ba:n<=12:=by have:=(Zek hs).2;omega
 have ay:=hid (show FlI w S ra rc ka kc n nd op res0 kn0 0 0 0 w from ⟨res0,sv0,kn0,hF,hR,I,fun j _ h=>⟨h,rfl⟩,fun _ _ _=>rfl,Keep.refl _ w⟩);have af:=hid ax;have Hs:=hid hs;have ag:=hid hbd;have a5:=hid hnq;have Hlt:=hid hlt;clear hF hR ax hs hbd hnq hlt;go_enter func21,ntmps21;go_wp2_with fail;go_loopw [7,8] (fun nv rv wr=> ∃ r cnt:Nat,r<=n/\rv=Yv Yi r/\nv=Yv Yi cnt/\FlI w S ra rc ka kc n nd op res0 kn0 r 0 cnt wr) (fun _ rv _=>n-(intOf rv).toNat);case atStart=>exact ⟨0,0,Nat.zero_le _,rfl,rfl,ay.out⟩
 case round=>
  clear ay;obtain ⟨r,cnt,hr,rfl,rfl,hI⟩:=hrel;have HI:=hid hI;clear hI;by_cases bb:r<n
  ·go_wp2;obtain ⟨wo,rfl⟩:=eX wr;go_loopw [7,9] (fun nv iv wr=> ∃ i cnt:Nat,i<=n/\iv=Yv Yi i/\nv=Yv Yi cnt/\FlI w S ra rc ka kc n nd op res0 kn0 r i cnt wr) (fun _ iv _=>n-(intOf iv).toNat);case atStart=>exact ⟨0,cnt,Nat.zero_le _,rfl,rfl,HI.out⟩
   case round=>
    clear HI;obtain ⟨i,cnt,hi,rfl,rfl,hI⟩:=hrel;by_cases hlti:i<n
    ·obtain ⟨res,sv,kn,hF,hR,hc,m,v,hKw⟩:=hI;have F:=hd.keep hKw fun q _ hq=>hdsep q hq;obtain ⟨db,bc,d,va,vc,a6,s,bd,be,G,rV,oD⟩:=F.at hlti;subst a6;obtain ⟨c0,c1,c2,c3,c4,c5,c6⟩:=id G;have z:d∈l:=List.mem_of_getElem? s;obtain ⟨B,C,E⟩:=Zv9 Hs.out z;obtain ⟨kb,a7,bf,k0,kf0⟩:=hF.knAt hlti;subst a7;have ai:(kn i=true\/ ∃ o,o∈nd i/\ ∀ k,o=some k->k<n/\kn k=false)->FlI w S ra rc (some ⟨kb,0,none⟩) kc n nd op res0 kn0 r (i+1) cnt wr:=fun h=>⟨res,sv,kn,hF,hR.skip h,hc,m,v,hKw⟩;have f:=hid ai;clear ai;go_wp2_with fail;refine (Zd2 _ n dc l d.a _ F I).mono ?_;rintro e _ ⟨rfl,rfl⟩;go_wp2_with fail;refine (Zd2 _ n dc l d.b _ F I).mono ?_;rintro e _ ⟨rfl,rfl⟩;cases R:kn i with
     |true=>
      have P:=hid (f.out (.inl R));rw[R] at k0;clear hF hR hc m v hKw f R F s rV z B C E;go_wp2;go_roundw;case rel=>exact ⟨i+1,cnt,I,Δ,rfl,P.out⟩
      case measure=>exact FN
     |false=>
      rw[R] at k0;have ap:kn0 i=false:=by
       cases h:kn0 i with
       |false=>rfl
       |true=>rw[(m i hlti h).1] at R;cases R
      obtain ⟨az,t⟩:=a5.out i hlti ap;obtain ⟨rb, -, -,a8,bg, -, -,aq,ar,av,aw⟩:=hF.resAt hlti;subst a8;have Hki:=hid R;have Hnd:=hid az;clear R az ap;by_cases h0:d.op=0
      ·obtain ⟨ea,eb⟩:=C h0;rw[ea,eb];rw[h0] at c1;obtain ⟨xs,V,X⟩:=ZjT (kn:=kn) (res:=res) (x:=rs0) (y:=rs0) s B.1 (fun h=>(h h0).elim) (fun h=>I);have H: ∀ W:World,Grow wr W->VRs W (fun _=>True) (.agg #[Yv Yi 0,Yv Yi 0, .slice none 0 0, .bool false]) rs0:=fun _ _=>VRs.zero;have Y:=H;have J:(rsM rs0).cells.length<=1048576:=CB;have Z:=J;clear ea eb h0;have HX:=hid V;have Hopv:=hid (show op i xs=doR d (rs0) (rs0) by rw[t xs,X]);have aj:=Zm7 ag.out z (rs0) (rs0);obtain ⟨w2,aa,hG2,bX,bY, -⟩:=al2 wr #[Yv Yi 0,Yv Yi 0, .slice none 0 0, .bool false] 41 #[Yv Yi 0,Yv Yi 0, .slice none 0 0, .bool false] 41;have ak:=hid aa;have hF2:=hF.grow hG2;have dA2:=G.grow hG2;have ab:RdI w2 (fun _=>True) va d.value.cells.length vc d.value.cells:=(rV.weak fun _ _ _=>trivial).grow hG2;have al:=hid (fun (W:World) (hW:Grow w2 W)=>Zq4 (U:=fun _=>True) (S:=fun _=>True) (T:=fun _=>True) ⟨va,d.value.cells.length,vc,rfl,ab.grow hW,oD⟩ (H W (hG2.trans hW)) (Y W (hG2.trans hW)) (ag.out d z) J Z B);have a0:cnt<=12:=ER;have Hc:=hid hc;have Hk1:=hid m;have Hk2:=hid v;have HR:=hid hR;have a1:=hid z;clear V X t aa H Y J Z rV ab G hc m v hR F s f B C E;go_wp2;rw[←ak.out];refine ZeC 10 [([0,1,2,3,4,5,6,7],some 8),([9],some 10)] ?_;refine Zct ?_;intro K hK;refine (al.out _ (JH w2).drew).mono ?_;rintro e w3 ⟨rv,rfl,⟨a3,c3',rfl,rdv,okv⟩,am⟩;have hGa:=(JH w2).drew.trans am;go_wp2_with fail;refine hK _ _ ((fun _=>hGa)) ?_;clear hK K;refine Zh ?_;refine ZY rfl (fun K hK=> ?_);have hF3:=hF2.grow hGa;have E4:=hF3.setRes (fun q hq e=>(hsep q hq).1 ξ) hlti (r:=doR d (rs0) (rs0)) (a:=a3) (c:=c3') (rdv.weak fun q _ hq=>hSz q CA) ⟨okv,aj⟩;have rg0:=hF3.oR.free (i*4);have rg1:=hF3.oR.free (i*4+1);have rg2:=hF3.oR.free (i*4+2);have rg3:=hF3.oR.free (i*4+3);simp only at rg0 rg1 rg2 rg3;obtain ⟨s1,s2,⟨rq0,rq1,rq2,rq3⟩, -⟩:=hF3.resC hlti;have hlrb:=hF3.oR.lt (g:=rb) rfl;clear aq ar av aw;generalize doR d (rs0) (rs0)=rr at *;exact FK
      ·have q0:(d.op !=0)=true:=Av;by_cases hA:Zn l d.a<0
       ·have ea:Zn l d.a= -1:=(by have:=(Zc5 (fun x:Dfn=>x.name.toList==d.a.toList) l).1;have: -1<=Zn l d.a:=this;omega);have P:=hid (f.out (.inr (by rw[Hnd.out];exact Zjn af.out s (Zrm h0) (.inl hA))));rw[ea];clear hF hR hc m v hKw f F s rV z B C E ea hA h0 t G;go_wp2;go_roundw;case rel=>exact ⟨i+1,cnt,I,Δ,rfl,P.out⟩
        case measure=>exact FN
       ·obtain ⟨A,L⟩: ∃ k:Nat,Zn l d.a=(k:Int):=⟨_,(Int.toNat_of_nonneg I).symm⟩;have ad:A<n:=(by have:=Zln L;rw[af.out] at this;exact this);have a2:=hF.knC ad;rw[L];cases M:kn A with
        |false=>
         have P:=hid (f.out (.inr (by rw[Hnd.out];exact Zjn af.out s (Zrm h0) (.inr ⟨A,L,M⟩))));rw[M] at a2;clear hF hR hc m v hKw f F s rV z B C E hA h0 t G L M;go_wp2;go_roundw;case rel=>exact ⟨i+1,cnt,I,Δ,rfl,P.out⟩
         case measure=>exact FN
        |true=>
         rw[M] at a2;obtain ⟨xa,xc,⟨bh,bi,bj,bk⟩,rX⟩:=hF.resC ad;have H: ∀ W:World,Grow wr W->VRs W (fun _=>True) (.agg #[Yv Yi (rsM (res A)).rows,Yv Yi (rsM (res A)).cols, .slice xa (rsM (res A)).cells.length xc, .bool (res A).isSome]) (res A):=fun W hW=>⟨xa,xc,rfl,(rX.weak fun _ _ _=>trivial).grow hW,(hF.ok A ad).1⟩;have J:=(hF.ok A ad).2;by_cases h2:2<d.op
         ·have eb:=E h2;rw[eb];obtain ⟨xs,V,X⟩:=ZjT (kn:=kn) (res:=res) (x:=res A) (y:=rs0) s B.1 (fun _=>⟨A,L,M,rfl⟩) (fun h=>I);have Y: ∀ W:World,Grow wr W->VRs W (fun _=>True) (.agg #[Yv Yi 0,Yv Yi 0, .slice none 0 0, .bool false]) rs0:=fun _ _=>VRs.zero;have Z:(rsM rs0).cells.length<=1048576:=CB;have an:inB d.op 1 2=false:=DX;clear eb L M hA;go_wp2_with fail;refine (ZaU _ _ _ _).mono ?_;rintro e _ ⟨rfl,rfl⟩;rw[an];clear an h2 h0;have HX:=hid V;have Hopv:=hid (show op i xs=doR d ((res A)) (rs0) by rw[t xs,X]);have aj:=Zm7 ag.out z ((res A)) (rs0);obtain ⟨w2,aa,hG2,bX,bY, -⟩:=al2 wr #[Yv Yi (rsM (res A)).rows,Yv Yi (rsM (res A)).cols, .slice xa (rsM (res A)).cells.length xc, .bool (res A).isSome] 41 #[Yv Yi 0,Yv Yi 0, .slice none 0 0, .bool false] 41;have ak:=hid aa;have hF2:=hF.grow hG2;have dA2:=G.grow hG2;have ab:RdI w2 (fun _=>True) va d.value.cells.length vc d.value.cells:=(rV.weak fun _ _ _=>trivial).grow hG2;have al:=hid (fun (W:World) (hW:Grow w2 W)=>Zq4 (U:=fun _=>True) (S:=fun _=>True) (T:=fun _=>True) ⟨va,d.value.cells.length,vc,rfl,ab.grow hW,oD⟩ (H W (hG2.trans hW)) (Y W (hG2.trans hW)) (ag.out d z) J Z B);have a0:cnt<=12:=ER;have Hc:=hid hc;have Hk1:=hid m;have Hk2:=hid v;have HR:=hid hR;have a1:=hid z;clear V X t aa H Y J Z rV ab G hc m v hR F s f B C E;go_wp2;rw[←ak.out];refine ZeC 10 [([0,1,2,3,4,5,6,7],some 8),([9],some 10)] ?_;refine Zct ?_;intro K hK;refine (al.out _ (JH w2).drew).mono ?_;rintro e w3 ⟨rv,rfl,⟨a3,c3',rfl,rdv,okv⟩,am⟩;have hGa:=(JH w2).drew.trans am;go_wp2_with fail;refine hK _ _ ((fun _=>hGa)) ?_;clear hK K;refine Zh ?_;refine ZY rfl (fun K hK=> ?_);have hF3:=hF2.grow hGa;have E4:=hF3.setRes (fun q hq e=>(hsep q hq).1 ξ) hlti (r:=doR d ((res A)) (rs0)) (a:=a3) (c:=c3') (rdv.weak fun q _ hq=>hSz q CA) ⟨okv,aj⟩;have rg0:=hF3.oR.free (i*4);have rg1:=hF3.oR.free (i*4+1);have rg2:=hF3.oR.free (i*4+2);have rg3:=hF3.oR.free (i*4+3);simp only at rg0 rg1 rg2 rg3;obtain ⟨s1,s2,⟨rq0,rq1,rq2,rq3⟩, -⟩:=hF3.resC hlti;have hlrb:=hF3.oR.lt (g:=rb) rfl;clear aq ar av aw;generalize doR d ((res A)) (rs0)=rr at *;exact FK
         ·have ao:d.op=1\/d.op=2:=I;have an:inB d.op 1 2=true:=DX;go_wp2_with fail;refine (ZaU _ _ _ _).mono ?_;rintro e _ ⟨rfl,rfl⟩;rw[an];clear an;by_cases hB:Zn l d.b<0
          ·have eb:Zn l d.b= -1:=(by have:=(Zc5 (fun x:Dfn=>x.name.toList==d.b.toList) l).1;have: -1<=Zn l d.b:=this;omega);have P:=hid (f.out (.inr (by rw[Hnd.out];exact Zjn af.out s (ZrY ao) (.inl hB))));rw[eb];clear hF hR hc m v hKw f F s rV z B C E hA h0 t G L M H J rX eb hB ao h2;go_wp2;go_roundw;case rel=>exact ⟨i+1,cnt,I,Δ,rfl,P.out⟩
           case measure=>exact FN
          ·obtain ⟨N,ah⟩: ∃ k:Nat,Zn l d.b=(k:Int):=⟨_,(Int.toNat_of_nonneg I).symm⟩;have ae:N<n:=(by have:=Zln ah;rw[af.out] at this;exact this);have a4:=hF.knC ae;rw[ah];cases O:kn N with
           |false=>
            have P:=hid (f.out (.inr (by rw[Hnd.out];exact Zjn af.out s (ZrY ao) (.inr ⟨N,ah,O⟩))));rw[O] at a4;clear hF hR hc m v hKw f F s rV z B C E hA h0 t G L M H J rX hB ao h2 ah O;go_wp2;go_roundw;case rel=>exact ⟨i+1,cnt,I,Δ,rfl,P.out⟩
            case measure=>exact FN
           |true=>
            rw[O] at a4;obtain ⟨ya,yc,⟨bl,bm,bn,bo⟩,rY⟩:=hF.resC ae;have Y: ∀ W:World,Grow wr W->VRs W (fun _=>True) (.agg #[Yv Yi (rsM (res N)).rows,Yv Yi (rsM (res N)).cols, .slice ya (rsM (res N)).cells.length yc, .bool (res N).isSome]) (res N):=fun W hW=>⟨ya,yc,rfl,(rY.weak fun _ _ _=>trivial).grow hW,(hF.ok N ae).1⟩;have Z:=(hF.ok N ae).2;obtain ⟨xs,V,X⟩:=ZjT (kn:=kn) (res:=res) (x:=res A) (y:=res N) s B.1 (fun _=>⟨A,L,M,rfl⟩) (fun _=>⟨N,ah,O,rfl⟩);clear L M hA ah O hB h2 ao h0;have HX:=hid V;have Hopv:=hid (show op i xs=doR d ((res A)) ((res N)) by rw[t xs,X]);have aj:=Zm7 ag.out z ((res A)) ((res N));obtain ⟨w2,aa,hG2,bX,bY, -⟩:=al2 wr #[Yv Yi (rsM (res A)).rows,Yv Yi (rsM (res A)).cols, .slice xa (rsM (res A)).cells.length xc, .bool (res A).isSome] 41 #[Yv Yi (rsM (res N)).rows,Yv Yi (rsM (res N)).cols, .slice ya (rsM (res N)).cells.length yc, .bool (res N).isSome] 41;have ak:=hid aa;have hF2:=hF.grow hG2;have dA2:=G.grow hG2;have ab:RdI w2 (fun _=>True) va d.value.cells.length vc d.value.cells:=(rV.weak fun _ _ _=>trivial).grow hG2;have al:=hid (fun (W:World) (hW:Grow w2 W)=>Zq4 (U:=fun _=>True) (S:=fun _=>True) (T:=fun _=>True) ⟨va,d.value.cells.length,vc,rfl,ab.grow hW,oD⟩ (H W (hG2.trans hW)) (Y W (hG2.trans hW)) (ag.out d z) J Z B);have a0:cnt<=12:=ER;have Hc:=hid hc;have Hk1:=hid m;have Hk2:=hid v;have HR:=hid hR;have a1:=hid z;clear V X t aa H Y J Z rV ab G hc m v hR F s f B C E;go_wp2;rw[←ak.out];refine ZeC 10 [([0,1,2,3,4,5,6,7],some 8),([9],some 10)] ?_;refine Zct ?_;intro K hK;refine (al.out _ (JH w2).drew).mono ?_;rintro e w3 ⟨rv,rfl,⟨a3,c3',rfl,rdv,okv⟩,am⟩;have hGa:=(JH w2).drew.trans am;go_wp2_with fail;refine hK _ _ ((fun _=>hGa)) ?_;clear hK K;refine Zh ?_;refine ZY rfl (fun K hK=> ?_);have hF3:=hF2.grow hGa;have E4:=hF3.setRes (fun q hq e=>(hsep q hq).1 ξ) hlti (r:=doR d ((res A)) ((res N))) (a:=a3) (c:=c3') (rdv.weak fun q _ hq=>hSz q CA) ⟨okv,aj⟩;have rg0:=hF3.oR.free (i*4);have rg1:=hF3.oR.free (i*4+1);have rg2:=hF3.oR.free (i*4+2);have rg3:=hF3.oR.free (i*4+3);simp only at rg0 rg1 rg2 rg3;obtain ⟨s1,s2,⟨rq0,rq1,rq2,rq3⟩, -⟩:=hF3.resC hlti;have hlrb:=hF3.oR.lt (g:=rb) rfl;clear aq ar av aw;generalize doR d ((res A)) ((res N))=rr at *;exact FK
    ·obtain rfl:i=n:=I;obtain ⟨res,sv,kn,hF,hR,hc,m,v,hKw⟩:=hI;have a9:=hid (show FlI w S ra rc ka kc i nd op res0 kn0 (r+1) 0 cnt wr from ⟨res,sv,kn,hF,hR.next,hc,m,v,hKw⟩);clear hF hR hc m v hKw;go_wp2;go_roundw;case rel=>exact ⟨r+1,cnt,I,Δ,rfl,a9.out⟩
     case measure=>exact FN
  ·obtain rfl:r=n:=I;go_wp2;go_ret;exact ⟨cnt,rfl,HI.out⟩
theorem ZmR (n:Nat):(madeCells #[Value.bool false] n).toList=bls (fun _=>false) n:=by
 rw[toList_madeCells_one];unfold bls;apply List.ext_getElem
 ·simp
 ·intro i a b;simp
theorem ZvG (hl:l.length=n) (hs:Zaa l=true) (hR:Rnd (ndL l) (opL opF l) n n 0 kn res) (hk: ∀ j,j<n->kn j=false->res j=rs0):Zaq l=rsL res n:=by
 unfold Zaq rsL;rw[if_pos hs,hl];refine Lu fun j b=> ?_;have a:=JW.1 b;have c:=hR.done j a;unfold Ztv evL;rw[hl,c];cases h:kn j with
 |true=>rw[if_pos rfl];rfl
 |false=>rw[if_neg Θ,hk j a h];rfl
theorem ZuZ {cap:Nat} (h:RdD w D a n cap l) (hn:n<=1048576) (hcl: ∀ d∈l,d.value.cells.length<=2097152):
  Calls prog 9 #[.slice a n cap] w fun e w'=> ∃ a' c',e= .returned (.slice a' (Zaq l).length c')/\RdR w' (fun q=>w.heap.size<=q) a' (Zaq l).length c' (Zaq l)/\Grow w w'/\ ∀ r∈Zaq l,ROk r/\(rsM r).cells.length<=1048576:=by
 have O:=h.len;go_enter func9,ntmps9;go_wp2_with fail;refine (ZmU a n cap l w h hn hcl).mono ?_;rintro e c ⟨rfl,b⟩;cases B:Zaa l with
 |false=>
  have Hs:=hid B;clear B;go_wp2_with fail;go_ret;have e0:Zaq l=[]:=by unfold Zaq;rw[Hs.out];rfl
  rw[e0];exact ⟨_,_,rfl,⟨⟨[],rfl,(Own.freshAt (e:=41) (sz:=4) (cs:= #[]) (n:=0) rfl Γ rfl).row fun q hq=>by have:=b.size;simp at hq;omega,fun _ _ h=>by simp[ZbO] at h⟩,rfl,fun _ h=>Ω⟩,b.alloc _ _,fun _ h=>Ω⟩
 |true=>
  have Hs:=hid B;clear B;have P:n<=12:=by have:=(Zek Hs.out).2;omega
  have h1:=h.grow b;have aa:=T_ress.make (n:=n) I Γ;have R:=T_boolss.make (n:=n) I Γ;obtain ⟨o,f,t, -, -,ab⟩:=al2 c (madeCells #[Yv Yi 0,Yv Yi 0, .slice none 0 0, .bool false] (n*4)) 41 (madeCells #[.bool false] n) 4;have S:Own o 41 4 (some ⟨c.heap.size,0,none⟩) n n (Zdd (rsL (fun _=>rs0) n) (svL (fun _=> .slice none 0 0) n)):=by have:=Own.freshAt (w:=c) (e:=41) (sz:=4) (cs:=madeCells #[Yv Yi 0,Yv Yi 0, .slice none 0 0, .bool false] (n*4)) (n:=n) rfl Γ Cr;rw[Zin] at this;rw[f];exact this.grow ((JH _).alloc _ _)
  have V:Own o 4 1 (some ⟨c.heap.size+1,0,none⟩) n n (bls (fun _=>false) n):=by have:=Own.freshAt (w:=c.alloc (.cells (madeCells #[Yv Yi 0,Yv Yi 0, .slice none 0 0, .bool false] (n*4)) 41)) (e:=4) (sz:=1) (cs:=madeCells #[.bool false] n) (n:=n) (g:=c.heap.size+1) Θ Γ Cr;rw[ZmR] at this;rw[f];exact this
  have p:RdCells o (fun q=>o.heap.size<=q) (svL (fun _=> .slice none 0 0) n) (ZbO (rsL (fun _=>rs0) n)):=fun i xs hi=>by have C:i<n:=DW;have h3:(rsL (fun _=>rs0) n)[i]? =some rs0:=Zar (fun _=>rs0) C;rw[Zcs h3] at hi;obtain rfl:=JJ hi;exact ⟨none,0,Zar (fun _=>Value.slice none 0 0) C,RdI.nilw _⟩
  have W:FlW o (fun q=>o.heap.size<=q) (some ⟨c.heap.size,0,none⟩) n (some ⟨c.heap.size+1,0,none⟩) n n (fun _=>rs0) (fun _=> .slice none 0 0) (fun _=>false):=
   ⟨S,V,p,fun _ _=>⟨BF,CB⟩⟩
  have G:RdD o (fun q=>D q/\q<w.heap.size) a n cap l:=((h.weak (T:=fun q=>D q/\q<w.heap.size) fun q H hq=>⟨hq,H⟩).grow b).grow t;have ad:=b.size;have J:=hid f;have X:=hid W;have L:=hid O;clear f S V p W O h h1 hcl;go_wp2_with fail;rw[←J.out];refine (ZuJ a cap l _ _ n n n _ _ _ (ndL l) (opL opF l) o G Hs.out X.out ?_ ?_ (fun q hq=>hq) ?_ (fun j _ _=>⟨rfl,fun _=>rfl⟩) Rnd.start (ZoG Hs.out)).mono ?_
  ·intro q hq;exact ⟨fun e=>Bw,fun e=>Bw⟩
  ·intro q hq;exact ⟨fun e=>Di,fun e=>Di⟩
  ·intro i hi k C;have:=Zut (l:=l) i (by rw[L.out];exact hi) k C;rw[L.out] at this;exact this
  rintro e Y ⟨ae,rfl,af,sv,kn,m,v, -, -,x,y⟩;have z:=ZvG L.out Hs.out v x;have E:(Zaq l).length=n:=by rw[z];simp[rsL]
  have s: ∀ r∈Zaq l,ROk r/\(rsM r).cells.length<=1048576:=fun r F=>by rw[z] at F;obtain ⟨j,hj,rfl⟩:=Kc.1 F;exact m.ok j (JW.1 hj)
  have hG:Grow w Y:=(b.trans t).keep y fun q hq=>⟨fun e=>Bw,fun e=>Bw⟩;have A:RdR Y (fun q=>w.heap.size<=q) (some ⟨c.heap.size,0,none⟩) n n (Zaq l):=by
   refine ⟨⟨svL sv n,by rw[E];simp[svL], ?_, ?_⟩,E,fun r F=>(s r F).1⟩
   ·rw[z];exact m.oR.row fun q hq=>ψ
   ·rw[z];exact m.val.weak fun q _ hq=>I
  have Z:=hid E;have M:=hid A;have N:=hid s;clear z E m v x y X A s;go_wp2;go_ret;exact ⟨_,_,by rw[Z.out];rfl,by rw[Z.out];exact M.out,hG,N.out⟩

end Go.Proofs.YtgjefeiddfjjnaaGreatDoor
