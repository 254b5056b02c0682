/- []Ratio and [][]Ratio: read and owned; the account of a form as a value. -/
import Derived.Test.YtjpcgofidijigaaGreatDoorZRatI
namespace Go.Proofs.YtjpcgofidijigaaGreatDoor
open Go.RowKit
variable {O cap i k mc n rc sc:Nat} {S T:Nat->Prop} {a ma ra sa:Option Addr} {l s:List Rt} {mu xss:List (List Rt)} {r:Rt} {vs:List Value} {w w':World}
theorem Zpq:SlT Tryz.prog 219 240 (.agg #[.int .i64 0, .int .i64 0]) 2 16:=SlT.mk' Tryz.underlying219 (by kernel_rfl) rfl
theorem ZrT:SlT Tryz.prog 218 219 (.slice none 0 0) 1 24:=SlT.mk' Tryz.underlying218 (by kernel_rfl) rfl
theorem Zhh:StT Tryz.prog 221 2:=⟨_,Tryz.underlying221,by kernel_rfl⟩
theorem ZeP:CellT Tryz.prog 219:=CellT.slice Tryz.underlying219
def rts:List Rt->List Value
 |[]=>[]
 |r::l=> .int .i64 r.1:: .int .i64 r.2::rts l
theorem Zjq: ∀ l k:List Rt,rts (l++k)=rts l++rts k
 |[],_=>rfl
 |r::l,k=>by simp only[List.cons_append,rts,Zjq l k]
theorem Zoy: ∀ {l:List Rt} {k:Nat} {r:Rt},l[k]? =some r->(rts l)[k*2]? =some (.int .i64 r.1)/\(rts l)[k*2+1]? =some (.int .i64 r.2)
 |[],k,r,h=>by simp at h
 |x::l,0,r,h=>by simp at h;subst h;exact ⟨rfl,rfl⟩
 |x::l,k+1,r,h=>by have:=Zoy (l:=l) (k:=k) (r:=r) (by simpa using h);rw[show (k+1)*2=k*2+1+1 by omega];simp only[rts,List.getElem?_cons_succ];exact this
structure RdT (w:World) (S:Nat->Prop) (a:Option Addr) (n cap:Nat) (l:List Rt):Prop where
 row:Row w S 2 a n cap (rts l)
 len:l.length=n
theorem RdT.keep (h:RdT w S a n cap l) (hk:Keep T w w') (hST: ∀ b,b<w.heap.size->S b->T b):RdT w' S a n cap l:=⟨h.row.keep hk hST,h.len⟩
theorem RdT.grow (h:RdT w S a n cap l) (hk:Grow w w'):RdT w' S a n cap l:=h.keep hk fun _ _ _=>trivial
theorem RdT.weak (h:RdT w S a n cap l) (hST: ∀ b,b<w.heap.size->S b->T b):RdT w T a n cap l:=⟨h.row.weak hST,h.len⟩
theorem RdT.at (h:RdT w S a n cap l) (hk:k<n):
  ∃ b off r,a=some ⟨b,off,none⟩/\l[k]? =some r/\S b/\b<w.heap.size/\w.cell? ⟨b,off+k*2,none⟩=some (.int .i64 r.1)/\w.cell? ⟨b,off+k*2+1,none⟩=some (.int .i64 r.2):=by
 have hlt:k<l.length:=by have:=h.len;omega
 have hk':l[k]? =some l[k]:=List.getElem?_eq_getElem hlt;obtain ⟨h1,h2⟩:=Zoy hk';obtain ⟨b,off,ha,hS,hc⟩:=h.row.addr (by intro e;rw[e] at h1;simp at h1);have c0:=hc _ _ h1;have c1:=hc _ _ h2;exact ⟨b,off,l[k],ha,hk',hS,World.block_lt_of_cell? w _ c0,c0,by rw[Nat.add_assoc];exact c1⟩
def RdRows (w:World) (S:Nat->Prop) (vs:List Value) (xss:List (List Rt)):Prop:=
 ∀ (i:Nat) (xs:List Rt),xss[i]? =some xs-> ∃ b c,vs[i]? =some (Value.slice b xs.length c)/\RdT w S b xs.length c xs
theorem RdRows.keep (h:RdRows w S vs xss) (hk:Keep T w w') (hST: ∀ b,b<w.heap.size->S b->T b):RdRows w' S vs xss:=fun i xs hi=>by
 obtain ⟨b,c,h3,h4⟩:=h i xs hi;exact ⟨b,c,h3,h4.keep hk hST⟩
theorem RdRows.weak (h:RdRows w S vs xss) (hST: ∀ b,b<w.heap.size->S b->T b):RdRows w T vs xss:=fun i xs hi=>by
 obtain ⟨b,c,h3,h4⟩:=h i xs hi;exact ⟨b,c,h3,h4.weak hST⟩
theorem RdRows.nilw:RdRows w S [] []:=fun i xs h=>by simp at h
theorem RdRows.snoc (h:RdRows w S vs xss) (hl:vs.length=xss.length) {b:Option Addr} {c:Nat} {xs:List Rt} (hx:RdT w S b xs.length c xs):RdRows w S (vs++[.slice b xs.length c]) (xss++[xs]):=fun i ys hi=>by
 by_cases hlt:i<xss.length
 ·rw[List.getElem?_append_left hlt] at hi;obtain ⟨b',c',h1,h2⟩:=h i ys hi;exact ⟨b',c',by rw[List.getElem?_append_left (by omega)];exact h1,h2⟩
 ·rw[List.getElem?_append_right (by omega)] at hi;have h0:i-xss.length=0:=by
   rcases Nat.eq_zero_or_pos (i-xss.length) with h0|h0
   ·exact h0
   ·rw[List.getElem?_eq_none (by simp;omega)] at hi;cases hi
  rw[h0] at hi;obtain rfl:xs=ys:=by simpa using hi
  have hi':i=vs.length:=by omega
  subst hi';exact ⟨b,c,by simp,hx⟩
structure RdTT (w:World) (S:Nat->Prop) (a:Option Addr) (n cap:Nat) (xss:List (List Rt)):Prop where
 row: ∃ vs,vs.length=xss.length/\Row w S 1 a n cap vs/\RdRows w S vs xss
 len:xss.length=n
theorem RdTT.keep {l:List (List Rt)} (h:RdTT w S a n cap l) (hk:Keep T w w') (hST: ∀ b,b<w.heap.size->S b->T b):RdTT w' S a n cap l:=by
 obtain ⟨⟨vs,h0,h1,h2⟩,hl⟩:=h;exact ⟨⟨vs,h0,h1.keep hk hST,h2.keep hk hST⟩,hl⟩
theorem RdTT.grow {l:List (List Rt)} (h:RdTT w S a n cap l) (hk:Grow w w'):RdTT w' S a n cap l:=h.keep hk fun _ _ _=>trivial
theorem RdTT.at {l:List (List Rt)} (h:RdTT w S a n cap l) (hk:k<n):
  ∃ b off xs b1 c1,a=some ⟨b,off,none⟩/\l[k]? =some xs/\S b/\b<w.heap.size/\w.cell? ⟨b,off+k,none⟩=some (.slice b1 xs.length c1)/\RdT w S b1 xs.length c1 xs:=by
 obtain ⟨⟨vs,h0,h1,h2⟩,hl⟩:=h;have hlt:k<l.length:=by omega
 have hk':l[k]? =some l[k]:=List.getElem?_eq_getElem hlt;obtain ⟨b1,c1,h3,h4⟩:=h2 _ _ hk';obtain ⟨b,off,ha,hS,hc⟩:=h1.addr (by intro e;rw[e] at h3;simp at h3);have c0:=hc _ _ h3;exact ⟨b,off,l[k],b1,c1,ha,hk',hS,World.block_lt_of_cell? w _ c0,c0,h4⟩
def AcM (w:World) (S:Nat->Prop) (v:Value) (o:List (List Rt)×List Rt):Prop:= ∃ ma mn mc sa sn sc,v= .agg #[.slice ma mn mc, .slice sa sn sc]/\RdTT w S ma mn mc o.1/\RdT w S sa sn sc o.2
theorem Za0 {P:Program} {C:World->Prop} {o:Oper} {a:Act} {K:Act->Prop} {ty:TypeId} {x:Operand} {b j:Nat} {u v:Value} (hty:StT P ty 2) (ho:o.op= .load ty x) (hx:a.eval x= .pointer (some ⟨b,j,none⟩))
  (hv: ∀ w',C w'->w'.cell? ⟨b,j,none⟩=some u/\w'.cell? ⟨b,j+1,none⟩=some v) (hk:K (a.put o.dst (.agg #[u,v]))):o.quiet P a C K:=by
 refine ⟨.agg #[u,v],fun w hw=> ?_,hk⟩;obtain ⟨h0,h1⟩:=hv w hw;obtain ⟨fs,hu,hi⟩:=hty;obtain ⟨i,hi',hs⟩:=Option.map_eq_some_iff.1 hi;have hg:(isAgg ty).run P w= .ok true w:=by simp[isAgg,run_underlying hu]
 have hsz:(sizeOf ty).run P w= .ok 2 w:=by simp[sizeOf,typeInfo,hi',hs]
 have hl:=run_loadCells_list (P:=P) (w:=w) ⟨b,j,none⟩ [u,v] (fun q x hq=>by
  match q,hq with
  |0,hq=>simp at hq;subst hq;simpa [Addr.add] using h0
  |1,hq=>simp at hq;subst hq;simpa [Addr.add] using h1
  |q+2,hq=>simp at hq)
 simp only[show ([u,v]:List Value).length=2 from rfl] at hl;have hload:(loadVar ty ⟨b,j,none⟩).run P w= .ok (.agg #[u,v]) w:=by simp[loadVar,hg,hsz,hl]
 unfold Oper.quietAt execOp;simp[ho,hx,Instr.loadAt,Instr.sureAddr,hload,Oper.quietUpon]
structure AcO (O:Nat) (w:World) (ma:Option Addr) (i mc:Nat) (vs:List Value) (mu:List (List Rt)) (sa:Option Addr) (sc:Nat) (s:List Rt) (ra:Option Addr) (rc:Nat) (row:List Rt):Prop where
 bO:Blk w O #[.slice ma i mc, .slice sa s.length sc] 221
 oM:Own w 219 1 ma i mc vs
 oS:Own w 240 2 sa s.length sc (rts s)
 oR:Own w 240 2 ra row.length rc (rts row)
 rr:RdRows w (fun q=>O<q/\blk sa≠some q/\blk ma≠some q/\blk ra≠some q) vs mu
 lM: ∀ q,blk ma=some q->O<q
 lS: ∀ q,blk sa=some q->O<q
 lR: ∀ q,blk ra=some q->O<q
 nMS: ∀ q,blk ma=some q->blk sa≠some q
 nMR: ∀ q,blk ma=some q->blk ra≠some q
 nSR: ∀ q,blk sa=some q->blk ra≠some q
theorem AcO.keep {row:List Rt} (h:AcO O w ma i mc vs mu sa sc s ra rc row) (k:Keep (fun q=>q<w.heap.size) w w'):AcO O w' ma i mc vs mu sa sc s ra rc row:=
 ⟨h.bO.keep k h.bO.lt,h.oM.keep k fun _ _ h=>h,h.oS.keep k fun _ _ h=>h,h.oR.keep k fun _ _ h=>h,h.rr.keep k fun _ hb _=>hb,h.lM,h.lS,h.lR,h.nMS,h.nMR,h.nSR⟩
theorem AcO.grow {row:List Rt} (h:AcO O w ma i mc vs mu sa sc s ra rc row) (k:Grow w w'):AcO O w' ma i mc vs mu sa sc s ra rc row:=h.keep (k.any.mono fun _ _ _=>trivial)
theorem AcO.fresh {g:Nat} (h:AcO O w ma i mc vs mu sa sc s none 0 []) (hg:g=w.heap.size):AcO O (w.alloc (.cells #[] 240)) ma i mc vs mu sa sc s (some ⟨g,0,none⟩) 0 []:=by
 have hG:Grow w (w.alloc (.cells #[] 240)):=(Grow.refl _).alloc _ _;subst hg;have hb:=h.bO.lt;refine ⟨h.bO.grow hG,h.oM.grow hG,h.oS.grow hG,Own.freshAt (cs:= #[]) rfl (by simp[maxLen]) rfl,(h.rr.weak (T:=fun q=>O<q/\blk sa≠some q/\blk ma≠some q/\blk (some (⟨w.heap.size,0,none⟩:Addr))≠some q) fun b hb hS=>⟨hS.1,hS.2.1,hS.2.2.1,fun e=>by simp at e;omega⟩).keep hG fun _ _ _=>trivial,h.lM,h.lS,fun q hq=>by simp at hq;omega,h.nMS,fun q hq e=> ?_,fun q hq e=> ?_⟩
 ·have:=h.oM.lt hq;simp at e;omega
 ·have:=h.oS.lt hq;simp at e;omega
theorem AcO.row {rc':Nat} {ra':Option Addr} {row:List Rt} (h:AcO O w ma i mc vs mu sa sc s ra rc row) (hA:Apped w w' 240 2 ra ra' (row.length+1) rc' (rts row++[.int .i64 r.1, .int .i64 r.2])):AcO O w' ma i mc vs mu sa sc s ra' rc' (row++[r]):=by
 have k:=hA.keep;have hb:=h.bO.lt;have hnew: ∀ q,q<w.heap.size->blk ra≠some q->blk ra'≠some q:=fun q hq hne=>by
  rcases hA.new with e|⟨g,e,hge⟩
  ·rw[e];exact hne
  ·rw[e];intro e2;have:=Option.some.inj e2;omega
 refine ⟨h.bO.keep k fun e=>by have:=h.lR _ e;omega,h.oM.keep k fun g hg _=>h.nMR g hg,h.oS.keep k fun g hg _=>h.nSR g hg, ?_,(h.rr.weak (T:=fun q=>(O<q/\blk sa≠some q/\blk ma≠some q/\blk ra'≠some q)/\blk ra≠some q) fun b hb hS=>⟨⟨hS.1,hS.2.1,hS.2.2.1,hnew b hb hS.2.2.2⟩,hS.2.2.2⟩).keep k (fun _ _ hS=>hS.2) |>.weak fun _ _ hS=>hS.1,h.lM,h.lS,hA.lo (by omega) h.lR,h.nMS,fun q hq=>hnew q (h.oM.lt hq) (h.nMR q hq),fun q hq=>hnew q (h.oS.lt hq) (h.nSR q hq)⟩;have:=hA.own;rw[Zjq,List.length_append];exact this
theorem AcO.sq {sc':Nat} {sa':Option Addr} {row:List Rt} (h:AcO O w ma i mc vs mu sa sc s ra rc row) (hA:Apped w w' 240 2 sa sa' (s.length+1) sc' (rts s++[.int .i64 r.1, .int .i64 r.2])):AcO O (w'.setCell ⟨O,1,none⟩ (.slice sa' (s.length+1) sc')) ma i mc vs mu sa' sc' (s++[r]) ra rc row:=by
 have k:=hA.keep;have hb:=h.bO.lt;have hnew: ∀ q,q<w.heap.size->blk sa≠some q->blk sa'≠some q:=fun q hq hne=>by
  rcases hA.new with e|⟨g,e,hge⟩
  ·rw[e];exact hne
  ·rw[e];intro e2;have:=Option.some.inj e2;omega
 have lS': ∀ q,blk sa'=some q->O<q:=hA.lo (by omega) h.lS;have k2:Keep (fun q=>O≠q) w' (w'.setCell ⟨O,1,none⟩ (.slice sa' (s.length+1) sc')):=(Keep.refl _ w').setCell (fun _ e=>e rfl) _;have b1:=(h.bO.keep k fun e=>by have:=h.lS _ e;omega).set 1 (.slice sa' (s.length+1) sc');have hll:(s++[r]).length=s.length+1:=by simp
 refine ⟨by rw[hll];exact b1,(h.oM.keep k fun g hg _=>h.nMS g hg).keep k2 fun g hg _=>by have:=h.lM g hg;omega, ?_,(h.oR.keep k fun g hg _ e=>h.nSR g e hg).keep k2 fun g hg _=>by have:=h.lR g hg;omega,
  ((h.rr.weak (T:=fun q=>(O<q/\blk sa'≠some q/\blk ma≠some q/\blk ra≠some q)/\blk sa≠some q) fun b hb hS=>⟨⟨hS.1,hnew b hb hS.2.1,hS.2.2⟩,hS.2.1⟩).keep k (fun _ _ hS=>hS.2) |>.weak fun _ _ hS=>hS.1).keep k2 (fun _ _ hS=>by have:=hS.1;omega),h.lM,lS',h.lR,fun q hq=>hnew q (h.oM.lt hq) (h.nMS q hq),h.nMR,fun q hq e=> ?_⟩
 ·have h1:=hA.own.keep k2 fun g hg _=>by have:=lS' g hg;omega
  rw[Zjq,hll];exact h1
 ·exact hnew q (h.oR.lt e) (fun e2=>h.nSR q e2 e) hq
theorem AcO.put {mc':Nat} {ma':Option Addr} {row:List Rt} (hv:vs.length=mu.length) (h:AcO O w ma i mc vs mu sa sc s ra rc row) (hA:Apped w w' 219 1 ma ma' (i+1) mc' (vs++[.slice ra row.length rc])):AcO O (w'.setCell ⟨O,0,none⟩ (.slice ma' (i+1) mc')) ma' (i+1) mc' (vs++[.slice ra row.length rc]) (mu++[row]) sa sc s none 0 []:=by
 have k:=hA.keep;have hb:=h.bO.lt;have hnew: ∀ q,q<w.heap.size->blk ma≠some q->blk ma'≠some q:=fun q hq hne=>by
  rcases hA.new with e|⟨g,e,hge⟩
  ·rw[e];exact hne
  ·rw[e];intro e2;have:=Option.some.inj e2;omega
 have lM': ∀ q,blk ma'=some q->O<q:=hA.lo (by omega) h.lM;have k2:Keep (fun q=>O≠q) w' (w'.setCell ⟨O,0,none⟩ (.slice ma' (i+1) mc')):=(Keep.refl _ w').setCell (fun _ e=>e rfl) _;have b1:=(h.bO.keep k fun e=>by have:=h.lM _ e;omega).set 0 (.slice ma' (i+1) mc');have hrow:RdT w (fun q=>O<q/\blk sa≠some q/\blk ma≠some q) ra row.length rc row:=⟨h.oR.row fun q hq=>⟨h.lR q hq,fun e=>h.nSR q e hq,fun e=>h.nMR q e hq⟩,rfl⟩;have hrr:=((h.rr.weak (T:=fun q=>O<q/\blk sa≠some q/\blk ma≠some q) fun b _ hS=>⟨hS.1,hS.2.1,hS.2.2.1⟩).snoc hv hrow).weak (T:=fun q=>(O<q/\blk sa≠some q/\blk ma'≠some q/\blk none≠some q)/\blk ma≠some q) fun b hb hS=>⟨⟨hS.1,hS.2.1,hnew b hb hS.2.2,by simp⟩,hS.2.2⟩;refine ⟨b1, ?_,(h.oS.keep k fun g hg _ e=>h.nMS g e hg).keep k2 fun g hg _=>by have:=h.lS g hg;omega,Own.nilw,((hrr.keep k fun _ _ hS=>hS.2).weak fun _ _ hS=>hS.1).keep k2 (fun _ _ hS=>by have:=hS.1;omega),lM',h.lS,fun q hq=>by simp at hq,fun q hq e=> ?_,fun q _ e=>by simp at e,fun q _ e=>by simp at e⟩
 ·exact hA.own.keep k2 fun g hg _=>by have:=lM' g hg;omega
 ·exact hnew q (h.oS.lt e) (fun e2=>h.nMS q e2 e) hq

end Go.Proofs.YtjpcgofidijigaaGreatDoor
