/- What a world keeps, and how slices of integers, of slices and of structs are read and owned: the words that every contract of this claim uses. No condition. -/
import Derived.WalkKit
import Derived.ProofKit
import Derived.OpenShut
import Derived.Lib.Hide
import Derived.Deep.QuietTactic
import Derived.BigQuiet
import Derived.OrdersHeld
import Derived.Laws.ResultCell
import Derived.SizedLaws
import Derived.Test.YtjpcgofidijigaaGreatDoorRows
import Derived.Great.BuildSlice
set_option maxHeartbeats 8000000
set_option maxRecDepth 100000
namespace Go.Proofs.YtjpcgofidijigaaGreatDoor
open Go.RowKit
variable {A:Act} {P:Program} {Q:Exit->Act->World->Prop} {R:Ending->World->Prop} {S T:Nat->Prop} {a a':Option Addr} {b c w w':World} {bytes cap cap' g k l m n sz:Nat} {cs news:List Value} {e t:TypeId} {fn:Func} {i:Int} {o:Oper} {p:Addr} {v z:Value} {xs:List Int} {xss:List (List Int)} {α:Type}
structure Keep (S:Nat->Prop) (w w':World):Prop where
 os:w'.os=w.os
 tape:w'.tape=w.tape
 output:w'.output=w.output
 size:w.heap.size<=w'.heap.size
 frozen: ∀ a,a.block<w.heap.size->w'.frozen? a=w.frozen? a
 block: ∀ k,k<w.heap.size->S k->w'.heap[k]? =w.heap[k]?
def Grow (w w':World):Prop:=Keep (fun _=>True) w w'
theorem Keep.refl (S:Nat->Prop) (w:World):Keep S w w:=⟨rfl,rfl,rfl,Nat.le_refl _,fun _ _=>rfl,fun _ _ _=>rfl⟩
theorem Keep.trans {a:World} (h:Keep S a b) (k:Keep S b c):Keep S a c:=
 ⟨k.os.trans h.os, k.tape.trans h.tape, k.output.trans h.output, Nat.le_trans h.size k.size, fun x hx => (k.frozen x (Nat.lt_of_lt_of_le hx h.size)).trans (h.frozen x hx),
  fun i hi hs=>(k.block i (Nat.lt_of_lt_of_le hi h.size) hs).trans (h.block i hi hs)⟩
theorem Keep.mono (h:Keep S w w') (ht: ∀ k,k<w.heap.size->T k->S k):Keep T w w':=
 ⟨h.os,h.tape,h.output,h.size,h.frozen,fun k hk hT=>h.block k hk (ht k hk hT)⟩
theorem Keep.drew {a:World} (h:Keep S a w):Keep S a w.drew:=⟨h.os,h.tape,h.output,h.size,h.frozen,h.block⟩
theorem Keep.drewN {a:World} (h:Keep S a w) (n:Nat):Keep S a (w.drewN n):=⟨h.os,h.tape,h.output,h.size,h.frozen,h.block⟩
theorem Keep.alloc {a:World} (h:Keep S a w) (c:Array Value) (t:TypeId):Keep S a (w.alloc (.cells c t)):=
 h.trans ⟨rfl,rfl,rfl,by simp,fun x _=>frozen?_alloc_cells w c t x,fun k hk _=>Below.heap_alloc _ _ _ hk⟩
theorem Keep.setCell {a:World} (h:Keep S a w) (hp:p.block<a.heap.size-> ¬ S p.block) (u:Value):Keep S a (w.setCell p u):=
 ⟨h.os, h.tape, h.output, by simpa using h.size, fun x hx => by rw [World.frozen?_setCell]; exact h.frozen x hx,
  fun k hk hs=>by rw[Below.heap_setCell _ _ _ _ (fun e=>hp (e▸hk) (e▸hs))];exact h.block k hk hs⟩
theorem Grow.refl (w:World):Grow w w:=Keep.refl _ _
theorem Grow.trans {a:World} (h:Grow a b) (k:Grow b c):Grow a c:=Keep.trans h k
theorem Grow.drew {a:World} (h:Grow a w):Grow a w.drew:=Keep.drew h
theorem Grow.drewN {a:World} (h:Grow a w) (n:Nat):Grow a (w.drewN n):=Keep.drewN h n
theorem Grow.alloc {a:World} (h:Grow a w) (c:Array Value) (t:TypeId):Grow a (w.alloc (.cells c t)):=Keep.alloc h c t
theorem Grow.setCell {a:World} (h:Grow a w) (hp:a.heap.size<=p.block) (u:Value):Grow a (w.setCell p u):=Keep.setCell h (fun hlt=>by omega) u
theorem Grow.keep {a:World} (h:Grow a b) (k:Keep S b c) (hS: ∀ i,i<a.heap.size->S i):Grow a c:=
 ⟨k.os.trans h.os, k.tape.trans h.tape, k.output.trans h.output, Nat.le_trans h.size k.size, fun x hx => (k.frozen x (Nat.lt_of_lt_of_le hx h.size)).trans (h.frozen x hx),
  fun i hi _=>(k.block i (Nat.lt_of_lt_of_le hi h.size) (hS i hi)).trans (h.block i hi trivial)⟩
theorem Grow.any {a:World} (h:Grow a b):Keep S a b:=Keep.mono h fun _ _ _=>trivial
theorem Grow.cell (h:Grow w w') (hc:w.cell? p=some v):w'.cell? p=some v:=
 (World.cell?_of_block (w:=w) (h.block p.block (World.block_lt_of_cell? w p hc) trivial)).trans hc
theorem Grow.below (h:Grow w w'):Below w.heap.size w w':=⟨h.os,h.tape,h.output,h.size,fun k hk=>h.block k hk trivial⟩
theorem Keep.cell (h:Keep S w w') (hS:S p.block) (hc:w.cell? p=some v):w'.cell? p=some v:=
 (World.cell?_of_block (w:=w) (h.block p.block (World.block_lt_of_cell? w p hc) hS)).trans hc
def Qt (w w':World):Prop:= ∃ q,w'=w.drewN q
theorem Qt.refl (w:World):Qt w w:=⟨0,rfl⟩
theorem Qt.drewN {a:World} (h:Qt a w) (n:Nat):Qt a (w.drewN n):=by
 obtain ⟨q,rfl⟩:=h;exact ⟨q+n,World.drewN_drewN _ _ _⟩
theorem Qt.trans {a:World} (h:Qt a b) (k:Qt b c):Qt a c:=by
 obtain ⟨q,rfl⟩:=k;exact h.drewN q
theorem Qt.grow {a:World} (h:Qt a b):Grow a b:=by
 obtain ⟨q,rfl⟩:=h;exact (Grow.refl a).drewN q
def Blk (w:World) (g:Nat) (cs:Array Value) (t:TypeId):Prop:=w.heap[g]? =some (.cells cs t (0,0))
theorem Blk.new (w:World) (cs:Array Value) (t:TypeId):Blk (w.alloc (.cells cs t)) w.heap.size cs t:=heap_alloc_new w _
theorem Blk.newAt (w:World) (cs:Array Value) (t:TypeId) (hg:g=w.heap.size):Blk (w.alloc (.cells cs t)) g cs t:=hg▸heap_alloc_new w _
theorem Blk.lt {cs:Array Value} (h:Blk w g cs t):g<w.heap.size:=(Array.getElem?_eq_some_iff.1 h).1
theorem Blk.keep {cs:Array Value} (h:Blk w g cs t) (hk:Keep S w w') (hS:S g):Blk w' g cs t:=(hk.block g h.lt hS).trans h
theorem Blk.grow {cs:Array Value} (h:Blk w g cs t) (hk:Grow w w'):Blk w' g cs t:=h.keep hk trivial
theorem Blk.alloc {cs:Array Value} (h:Blk w g cs t) (o:Obj):Blk (w.alloc o) g cs t:=(Below.heap_alloc w o g h.lt).trans h
theorem Blk.cell {cs:Array Value} (h:Blk w g cs t) (j:Nat):w.cell? ⟨g,j,none⟩=cs[j]? :=cell_of_row w g j cs t (0,0) h
theorem Blk.free {cs:Array Value} (h:Blk w g cs t) (j:Nat):w.frozen? ⟨g,j,none⟩=false:=frozen_of_row w g j cs t h
theorem Blk.set {cs:Array Value} (h:Blk w g cs t) (j:Nat) (v:Value):Blk (w.setCell ⟨g,j,none⟩ v) g (cs.setIfInBounds j v) t:=heap_setCell_same w g j cs t v h
theorem Blk.other {cs:Array Value} (h:Blk w g cs t) (hp:g≠p.block) (v:Value):Blk (w.setCell p v) g cs t:=(heap_setCell_other w p g v hp).trans h
theorem Blk.three {x y:Value} (h:Blk w g #[x,y,z] t):
  (w.cell? ⟨g,0,none⟩=some x/\w.cell? ⟨g,1,none⟩=some y/\w.cell? ⟨g,2,none⟩=some z)/\(w.frozen? ⟨g,0,none⟩=false/\w.frozen? ⟨g,1,none⟩=false/\w.frozen? ⟨g,2,none⟩=false):=
 ⟨⟨h.cell 0,h.cell 1,h.cell 2⟩,h.free 0,h.free 1,h.free 2⟩
def StT (P:Program) (ty:TypeId) (sz:Nat):Prop:= ∃ fs,P.underlying ty=some (.struct fs)/\(P.info? ty).map (·.size)=some sz
theorem StT.load {ty:TypeId} {cs:Array Value} (h:StT P ty cs.size) (hb:Blk w g cs t):(loadVar ty ⟨g,0,none⟩).run P w= .ok (.agg cs) w:=by
 obtain ⟨fs,hu,hi⟩:=h;exact run_loadVar_row w g t ty cs (0,0) _ hb hu rfl hi
theorem ZF {a:Act} {ty:TypeId} {cs:Array Value} {p:Tmp} (hT:StT P ty cs.size) (h:fn.results= #[.cell p ty]) (hd:a.defers=[]) (hp:a.tmps.getD p undef= .pointer (some ⟨g,0,none⟩))
  (hb:Blk w g cs t) (hR:R (.returned (.agg cs)) w):bodyPost P fn R .ret a w:=by
 have hp':a.tmps[p]?.getD undef= .pointer (some ⟨g,0,none⟩):=by simpa using hp
 exact bodyPost_ret (v:= .agg cs) (by simp[results,h,hp',asAddr,hT.load hb]) hd hR
theorem Zd {a:Act} {ty:TypeId} {cs:Array Value} {p u:Tmp} (hT:StT P ty cs.size) (h:fn.results= #[.cell p ty, .tmp u]) (hd:a.defers=[]) (hp:a.tmps.getD p undef= .pointer (some ⟨g,0,none⟩))
  (hb:Blk w g cs t) (hR:R (.returned (.tuple #[.agg cs,a.tmps.getD u undef])) w):bodyPost P fn R .ret a w:=by
 refine bodyPost_ret (v:= .tuple #[.agg cs,a.tmps.getD u undef]) ?_ hd hR;rw[results_cell_tmp h,hp];simp[asAddr,hT.load hb]
def CellT (P:Program) (ty:TypeId):Prop:= ∃ d,P.underlying ty=some d/\(∀ fs,d≠ .struct fs)/\ ∀ n e,d≠ .array n e
theorem CellT.int {ty:TypeId} {k:IntKind} (h:P.underlying ty=some (.int k)):CellT P ty:=⟨_,h,(fun _ e=>by cases e),(fun _ _ e=>by cases e)⟩
theorem CellT.slice {ty:TypeId} (h:P.underlying ty=some (.slice e)):CellT P ty:=⟨_,h,(fun _ e=>by cases e),(fun _ _ e=>by cases e)⟩
theorem CellT.string {ty:TypeId} (h:P.underlying ty=some .string):CellT P ty:=⟨_,h,(fun _ e=>by cases e),(fun _ _ e=>by cases e)⟩
theorem CellT.bool {ty:TypeId} (h:P.underlying ty=some .bool):CellT P ty:=⟨_,h,(fun _ e=>by cases e),(fun _ _ e=>by cases e)⟩
theorem CellT.load {ty:TypeId} (h:CellT P ty) (hc:w.cell? p=some v):(Instr.loadAt ty (.pointer (some p))).run P w= .ok v w:=by
 obtain ⟨d,hd,h1,h2⟩:=h;have hg:(isAgg ty).run P w= .ok false w:=by cases d<;>simp[isAgg,run_underlying hd]<;>first |exact (h1 _ rfl).elim|exact (h2 _ _ rfl).elim
 simp[Instr.loadAt,Instr.sureAddr,loadVar,hg,hc]
section
variable {P:Program} {C:World->Prop} {o:Oper} {a:Act} {K:Act->Prop}
theorem Zh2 {t:TypeId} {x:Operand} {lo hi mx:Option Operand} {v:Value} (ho:o.op= .slice t x lo hi mx)
  (hr: ∀ w,(Instr.sliceAt t (a.eval x) (lo.map a.eval) (hi.map a.eval) (mx.map a.eval)).run P w= .ok v w) (hk:K (a.put o.dst v)):o.quiet P a C K:=by
 refine ⟨v,fun w hw=> ?_,hk⟩;unfold Oper.quietAt execOp;simp[ho,hr w,Oper.quietUpon]
theorem Zal {t:TypeId} {x h:Operand} {v:Value} (ho:o.op= .slice t x none (some h) none)
  (hr: ∀ w,(Instr.sliceAt t (a.eval x) none (some (a.eval h)) none).run P w= .ok v w) (hk:K (a.put o.dst v)):o.quiet P a C K:=Zh2 ho hr hk
theorem Zg7 {t:TypeId} {x l:Operand} {v:Value} (ho:o.op= .slice t x (some l) none none)
  (hr: ∀ w,(Instr.sliceAt t (a.eval x) (some (a.eval l)) none none).run P w= .ok v w) (hk:K (a.put o.dst v)):o.quiet P a C K:=Zh2 ho hr hk
theorem Zag {ty:TypeId} {x:Operand} {g:Nat} {cs:Array Value} {t:TypeId} (hty:StT P ty cs.size) (ho:o.op= .load ty x) (hx:a.eval x= .pointer (some ⟨g,0,none⟩))
  (hv: ∀ w',C w'->Blk w' g cs t) (hk:K (a.put o.dst (.agg cs))):o.quiet P a C K:=by
 refine ⟨.agg cs,fun w hw=> ?_,hk⟩;have h:=hty.load (hv w hw);unfold Oper.quietAt execOp;simp[ho,hx,Instr.loadAt,Instr.sureAddr,h,Oper.quietUpon]
theorem Za {ty:TypeId} {x:Operand} {p:Addr} {v:Value} (hty:CellT P ty) (ho:o.op= .load ty x) (hx:a.eval x= .pointer (some p))
  (hv: ∀ w',C w'->w'.cell? p=some v) (hk:K (a.put o.dst v)):o.quiet P a C K:=by
 refine ⟨v,fun w hw=> ?_,hk⟩;have h:=hty.load (hv w hw);unfold Oper.quietAt execOp;simp[ho,hx,h,Oper.quietUpon]
end
structure Row (w:World) (S:Nat->Prop) (sz:Nat) (a:Option Addr) (n cap:Nat) (cs:List Value):Prop where
 len:cs.length=n*sz
 le:n<=cap
 max:cap<=maxLen
 nil:a=none->cap=0
 addr:cs≠[]-> ∃ b off,a=some ⟨b,off,none⟩/\S b/\ ∀ j c,cs[j]? =some c->w.cell? ⟨b,off+j,none⟩=some c
theorem Row.keep (h:Row w S sz a n cap cs) (hk:Keep T w w') (hST: ∀ b,b<w.heap.size->S b->T b):Row w' S sz a n cap cs:=by
 refine ⟨h.len,h.le,h.max,h.nil,fun hne=> ?_⟩;obtain ⟨b,off,ha,hS,hc⟩:=h.addr hne;refine ⟨b,off,ha,hS,fun j c hj=> ?_⟩;have h1:=hc j c hj;exact hk.cell (hST b (World.block_lt_of_cell? w _ h1) hS) h1
theorem Row.grow (h:Row w S sz a n cap cs) (hk:Grow w w'):Row w' S sz a n cap cs:=h.keep hk fun _ _ _=>trivial
theorem Row.weak (h:Row w S sz a n cap cs) (hST: ∀ b,b<w.heap.size->S b->T b):Row w T sz a n cap cs:=by
 refine ⟨h.len,h.le,h.max,h.nil,fun hne=> ?_⟩;obtain ⟨b,off,ha,hS,hc⟩:=h.addr hne;refine ⟨b,off,ha, ?_,hc⟩;cases cs with
 |nil=>exact (hne rfl).elim
 |cons c r=>exact hST b (World.block_lt_of_cell? w _ (hc 0 c rfl)) hS
abbrev ints (xs:List Int):List Value:=xs.map (Value.int .i64)
theorem Zc9 (xs:List Int): ∀ u∈ints xs,u.oneCell'=true:=by
 intro u hu;obtain ⟨x,_,rfl⟩:=List.mem_map.1 hu;rfl
def I64 (n:Int):Prop:= -9223372036854775808<=n/\n<=9223372036854775807
structure RdI (w:World) (S:Nat->Prop) (a:Option Addr) (n cap:Nat) (xs:List Int):Prop where
 row:Row w S 1 a n cap (ints xs)
 rng: ∀ x∈xs,I64 x
theorem RdI.len (h:RdI w S a n cap xs):xs.length=n:=by simpa using h.row.len
theorem RdI.keep (h:RdI w S a n cap xs) (hk:Keep T w w') (hST: ∀ b,b<w.heap.size->S b->T b):RdI w' S a n cap xs:=⟨h.row.keep hk hST,h.rng⟩
theorem RdI.grow (h:RdI w S a n cap xs) (hk:Grow w w'):RdI w' S a n cap xs:=⟨h.row.grow hk,h.rng⟩
theorem RdI.weak (h:RdI w S a n cap xs) (hST: ∀ b,b<w.heap.size->S b->T b):RdI w T a n cap xs:=⟨h.row.weak hST,h.rng⟩
theorem RdI.at (h:RdI w S a n cap xs) (hk:k<n):
  ∃ b off x,a=some ⟨b,off,none⟩/\xs[k]? =some x/\I64 x/\S b/\b<w.heap.size/\w.cell? ⟨b,off+k,none⟩=some (.int .i64 x):=by
 have hl:=h.len;have hlt:k<xs.length:=by omega
 obtain ⟨b,off,ha,hS,hc⟩:=h.row.addr (by intro e;have:=congrArg List.length e;simp at this;subst this;simp at hlt);have h1:=hc k (.int .i64 xs[k]) (by simp[List.getElem?_eq_getElem hlt]);exact ⟨b,off,xs[k],ha,List.getElem?_eq_getElem hlt,h.rng _ (List.getElem_mem hlt),hS,World.block_lt_of_cell? w _ h1,h1⟩
theorem RdI.nilw (w:World):RdI w S none 0 0 []:=⟨⟨rfl,Nat.le_refl _,by simp[maxLen],fun _=>rfl,fun h=>(h rfl).elim⟩,fun _ h=>by cases h⟩
structure RdII (w:World) (S:Nat->Prop) (a:Option Addr) (n cap:Nat) (xss:List (List Int)):Prop where
 row: ∃ vs:List Value,Row w S 1 a n cap vs/\ ∀ (i:Nat) (xs:List Int),xss[i]? =some xs-> ∃ b c,vs[i]? =some (Value.slice b xs.length c)/\RdI w S b xs.length c xs
 len:xss.length=n
theorem RdII.keep (h:RdII w S a n cap xss) (hk:Keep T w w') (hST: ∀ b,b<w.heap.size->S b->T b):RdII w' S a n cap xss:=by
 obtain ⟨⟨vs,h1,h2⟩,hl⟩:=h;refine ⟨⟨vs,h1.keep hk hST,fun i xs hi=> ?_⟩,hl⟩;obtain ⟨b,c,h3,h4⟩:=h2 i xs hi;exact ⟨b,c,h3,h4.keep hk hST⟩
theorem RdII.grow (h:RdII w S a n cap xss) (hk:Grow w w'):RdII w' S a n cap xss:=h.keep hk fun _ _ _=>trivial
theorem RdII.weak (h:RdII w S a n cap xss) (hST: ∀ b,b<w.heap.size->S b->T b):RdII w T a n cap xss:=by
 obtain ⟨⟨vs,h1,h2⟩,hl⟩:=h;refine ⟨⟨vs,h1.weak hST,fun i xs hi=> ?_⟩,hl⟩;obtain ⟨b,c,h3,h4⟩:=h2 i xs hi;exact ⟨b,c,h3,h4.weak hST⟩
theorem RdII.at (h:RdII w S a n cap xss) (hk:k<n):
  ∃ b off xs a' c',a=some ⟨b,off,none⟩/\xss[k]? =some xs/\S b/\b<w.heap.size/\w.cell? ⟨b,off+k,none⟩=some (.slice a' xs.length c')/\RdI w S a' xs.length c' xs:=by
 obtain ⟨⟨vs,h1,h2⟩,hl⟩:=h;have hlt:k<xss.length:=by omega
 obtain ⟨a',c',h3,h4⟩:=h2 k _ (List.getElem?_eq_getElem hlt);obtain ⟨b,off,ha,hS,hc⟩:=h1.addr (by intro e;subst e;simp at h3);have h5:=hc k _ h3;exact ⟨b,off,xss[k],a',c',ha,List.getElem?_eq_getElem hlt,hS,World.block_lt_of_cell? w _ h5,h5,h4⟩
def blk:Option Addr->Option Nat
 |some p=>some p.block
 |none=>none
@[simp] theorem ZsY (p:Addr):blk (some p)=some p.block:=rfl
@[simp] theorem Zs2:blk none=none:=rfl
structure Own (w:World) (e:TypeId) (sz:Nat) (a:Option Addr) (n cap:Nat) (cs:List Value):Prop where
 len:cs.length=n*sz
 le:n<=cap
 max:cap<=maxLen
 nil:a=none->cap=0
 block: ∀ p,a=some p->p=⟨p.block,0,none⟩/\ ∃ cur,w.heap[p.block]? =some (.cells cur e (0,0))/\cap*sz<=cur.size/\cur.toList.take (n*sz)=cs
theorem Own.keep (h:Own w e sz a n cap cs) (hk:Keep T w w') (hT: ∀ g,blk a=some g->g<w.heap.size->T g):Own w' e sz a n cap cs:=by
 refine ⟨h.len,h.le,h.max,h.nil,fun p hp=> ?_⟩;obtain ⟨h1,cur,h2,h3,h4⟩:=h.block p hp;have hlt:=(Array.getElem?_eq_some_iff.1 h2).1;exact ⟨h1,cur,(hk.block _ hlt (hT _ (by simp[hp]) hlt)).trans h2,h3,h4⟩
theorem Own.grow (h:Own w e sz a n cap cs) (hk:Grow w w'):Own w' e sz a n cap cs:=h.keep hk fun _ _ _=>trivial
theorem Own.lt (h:Own w e sz a n cap cs) (hg:blk a=some g):g<w.heap.size:=by
 cases a with
 |none=>simp at hg
 |some p=>obtain ⟨h1,cur,h2,_⟩:=h.block p rfl;simp at hg;subst hg;exact (Array.getElem?_eq_some_iff.1 h2).1
theorem Own.row (h:Own w e sz a n cap cs) (hS: ∀ g,blk a=some g->S g):Row w S sz a n cap cs:=by
 refine ⟨h.len,h.le,h.max,h.nil,fun hne=> ?_⟩;cases a with
 |none=>
  have:=h.nil rfl;have h1:=h.le;have h2:=h.len;have:n=0:=by omega
  subst this;exact (hne (List.eq_nil_of_length_eq_zero (by simpa using h2))).elim
 |some p=>
  obtain ⟨h1,cur,h2,_,h4⟩:=h.block p rfl;refine ⟨p.block,0,by rw[←h1],hS _ rfl,fun j c hj=> ?_⟩;rw[Nat.zero_add,cell_of_row w p.block j cur e (0,0) h2];rw[←h4,List.getElem?_take] at hj;split at hj
  ·simpa using hj
  ·cases hj
theorem Own.rdI (h:Own w e 1 a n cap (ints xs)) (hS: ∀ g,blk a=some g->S g) (hr: ∀ x∈xs,I64 x):RdI w S a n cap xs:=⟨h.row hS,hr⟩
theorem Own.fresh {cs:Array Value} (hn:n<=maxLen) (hs:cs.size=n*sz):Own (w.alloc (.cells cs e)) e sz (some ⟨w.heap.size,0,none⟩) n n cs.toList:=by
 refine ⟨by simpa using hs,Nat.le_refl _,hn,(fun h=>by cases h),fun p hp=> ?_⟩;obtain rfl:=Option.some.inj hp;exact ⟨rfl,cs,heap_alloc_new w _,by omega,by rw[←hs, ←Array.length_toList];exact List.take_length⟩
theorem Own.freshAt {cs:Array Value} (hg:g=w.heap.size) (hn:n<=maxLen) (hs:cs.size=n*sz):Own (w.alloc (.cells cs e)) e sz (some ⟨g,0,none⟩) n n cs.toList:=hg▸Own.fresh hn hs
theorem Own.nilw:Own w e sz none 0 0 []:=⟨by simp,Nat.le_refl _,by simp[maxLen],fun _=>rfl,fun p hp=>by cases hp⟩
theorem Own.set (h:Own w e sz (some p) n cap cs) (j:Nat) (v:Value):
  Own (w.setCell ⟨p.block,j,none⟩ v) e sz (some p) n cap (cs.set j v):=by
 obtain ⟨h1,cur,h2,h3,h4⟩:=h.block p rfl;refine ⟨by rw[List.length_set];exact h.len,h.le,h.max,h.nil,fun q hq=> ?_⟩;obtain rfl:=Option.some.inj hq;refine ⟨h1,cur.setIfInBounds j v, ?_,by simpa using h3, ?_⟩
 ·have hlt:=(Array.getElem?_eq_some_iff.1 h2).1;simp[World.setCell,Array.getElem?_modify,h2]
 ·rw[←h4];simp[List.take_set]
theorem Own.cell (h:Own w e sz (some p) n cap cs) {j:Nat} {c:Value} (hj:cs[j]? =some c):w.cell? ⟨p.block,j,none⟩=some c:=by
 obtain ⟨h1,cur,h2,h3,h4⟩:=h.block p rfl;rw[cell_of_row w p.block j cur e (0,0) h2];rw[←h4,List.getElem?_take] at hj;split at hj
 ·simpa using hj
 ·cases hj
theorem Own.free (h:Own w e sz (some p) n cap cs) (j:Nat):w.frozen? ⟨p.block,j,none⟩=false:=by
 obtain ⟨_,cur,h2,_⟩:=h.block p rfl;exact frozen_of_row w p.block j cur e h2
structure Apped (w w':World) (e:TypeId) (sz:Nat) (a a':Option Addr) (n cap':Nat) (cs:List Value):Prop where
 own:Own w' e sz a' n cap' cs
 keep:Keep (fun k=>blk a≠some k) w w'
 new:blk a'=blk a\/ ∃ g,blk a'=some g/\w.heap.size<=g
theorem Apped.grow {w0:World} (h:Apped w w' e sz a a' n cap' cs) (hg:Grow w0 w) (ha: ∀ g,blk a=some g->w0.heap.size<=g):Grow w0 w':=
 hg.keep h.keep fun i hi e=>by have:=ha i e;omega
theorem Apped.lo {B:Nat} (h:Apped w w' e sz a a' n cap' cs) (hB:B<=w.heap.size) (ha: ∀ g,blk a=some g->B<=g): ∀ g,blk a'=some g->B<=g:=by
 intro g hg;rcases h.new with e|⟨g',e,hge⟩
 ·exact ha g (e▸hg)
 ·rw[e] at hg;have:=Option.some.inj hg;omega
theorem Zii {cur:Array Value} (hg:w.heap[g]? =some (.cells cur e (0,0))) (cs:Array Value):Keep (fun k=>some g≠some k) w (w.setRow g cs):=by
 refine ⟨rfl,rfl,rfl,by simp,fun x _=> ?_,fun k _ hk=>setRow_other w g k _ (fun e=>hk (by simp[e]))⟩;by_cases hx:x.block=g
 ·have h1:=setRow_heap w g cur cs e (0,0) hg;simp[World.frozen?,hx,h1,hg]
 ·simp[World.frozen?,setRow_other w g x.block cs hx]
theorem ZjP (w:World) (t ty e:TypeId) (i:TypeInfo) (z:Value) (sz bytes:Nat) (ht:P.underlying t=some (.slice e)) (hi:P.info? e=some i) (hz:i.zero=some z)
  (hsize:i.size=sz) (hby:i.bytes=bytes) (hzs:z.cells.size=sz)
  (hown:Own w e sz a n cap cs) {b:Option Addr} {c:Nat} (hsrc:Row w S sz b m c news) (h1: ∀ u∈news,u.oneCell'=true)
  (hbytes:(n+m)*bytes<=140737488355328) (h63:n+m<=maxLen):
  ∃ a' cap' w',(Builtin.append_ #[t,t] ty #[.slice a n cap, .slice b m c]).run P w= .ok (.slice a' (n+m) cap') w'/\Apped w w' e sz a a' (n+m) cap' (cs++news):=by
 subst hsize;subst hby;have hlen:(cs++news).length=(n+m)*i.size:=by rw[List.length_append,hown.len,hsrc.len,Nat.add_mul]
 have hsmall: ¬ (9223372036854775807<(((n+m:Nat):Int))):=by simp only[maxLen] at h63;omega
 have hf: ∀ W:World,(∀ p,W.cell? p=w.cell? p)->(Builtin.firstCells i.size m (.slice b m c)).run P W= .ok news.toArray W:=fun W hW=>by
  by_cases hne:news=[]
  ·subst hne;have hm:m*i.size=0:=(by have:=hsrc.len;simpa using this.symm);cases b with
   |none=>simp[Builtin.firstCells]
   |some q=>exact run_firstCells_some W i.size m q m c [] (by simpa using hm.symm) (by simp)
  ·obtain ⟨q,off,rfl,_,hc⟩:=hsrc.addr hne;refine run_firstCells_some W i.size m _ m c news hsrc.len fun j u hj=> ?_;rw[hW];have:(⟨q,off,none⟩:Addr).add j=⟨q,off+j,none⟩:=(by unfold Addr.add;split<;>simp_all);rw[this];exact hc j u hj
 by_cases hroom:n+m<=cap
 ·cases a with
  |none=>have h0:=hown.nil rfl;have hn0:n=0:=(by have:=hown.le;omega);have hm0:m=0:=(by omega);subst hn0;subst hm0;subst h0;have e1:cs=[]:=List.eq_nil_of_length_eq_zero (by simpa using hown.len);have e2:news=[]:=List.eq_nil_of_length_eq_zero (by simpa using hsrc.len);subst e1;subst e2;refine ⟨none,0,w, ?_,Own.nilw,Keep.refl _ _, .inl rfl⟩;simp[Builtin.append_,run_underlying ht,sizeOf,typeInfo,hi,Builtin.lenOf,hf w (fun _=>rfl)]
  |some p=>
   obtain ⟨hp,cur,hg,hfit,htake⟩:=hown.block p rfl;have hst:=run_storeCells_at P p.block (n*i.size) e news 0 cur w hg (by rw[hsrc.len,Nat.add_zero, ←Nat.add_mul];exact Nat.le_trans (Nat.mul_le_mul_right _ hroom) hfit) h1;simp only[Nat.add_zero] at hst;have hfit':n*i.size+news.length<=cur.size:=(by rw[hsrc.len, ←Nat.add_mul];exact Nat.le_trans (Nat.mul_le_mul_right _ hroom) hfit);refine ⟨some p,cap,w.setRow p.block (cur.toList.take (n*i.size)++news++cur.toList.drop (n*i.size+news.length)).toArray, ?_,⟨hlen,hroom,hown.max,(fun h=>by cases h),fun q hq=> ?_⟩,Zii hg _, .inl rfl⟩
   ·rw[hp];simp[Builtin.append_,run_underlying ht,sizeOf,typeInfo,hi,Builtin.lenOf,hroom,hf w (fun _=>rfl),Addr.add_lit,hst]
   ·obtain rfl:=Option.some.inj hq;refine ⟨hp,_,setRow_heap w p.block cur _ e _ hg, ?_, ?_⟩
    ·simp only[List.size_toArray,List.length_append,List.length_take,List.length_drop,Array.length_toList];omega
    ·rw[htake, ←hlen];exact List.take_left
 ·have hold:(Builtin.firstCells i.size n (.slice a n cap)).run P w.drew= .ok cs.toArray w.drew:=by
   have hr:=hown.row (S:=fun _=>True) (fun _ _=>trivial);by_cases hne:cs=[]
   ·subst hne;have hm:n*i.size=0:=(by have:=hown.len;simpa using this.symm);cases a with
    |none=>simp[Builtin.firstCells]
    |some q=>exact run_firstCells_some w.drew i.size n q n cap [] (by simpa using hm.symm) (by simp)
   ·obtain ⟨q,off,rfl,_,hc⟩:=hr.addr hne;refine run_firstCells_some w.drew i.size n _ n cap cs hown.len fun j u hj=> ?_;have:(⟨q,off,none⟩:Addr).add j=⟨q,off+j,none⟩:=(by unfold Addr.add;split<;>simp_all);rw[this];exact hc j u hj
  have hcap:=growslice_fits (need:=n+m) (old:=cap) (bytes:=i.bytes) (by omega) hbytes;have h48: ¬ (281474976710656<Builtin.nextslicecap (n+m) cap*i.bytes):=by omega
  have hge:=grownCap_ge w (n+m) cap e;have hcm:grownCap w (n+m) cap e<=maxLen:=grownCap_le_maxLen w (n+m) cap e h63
  refine ⟨some ⟨w.heap.size,0,none⟩,grownCap w (n+m) cap e,w.drew.alloc (.cells (cs.toArray++news.toArray++Builtin.zeroCells z.cells (grownCap w (n+m) cap e-(n+m))) e), ?_,
   ⟨hlen,hge,hcm,(fun h=>by cases h),fun q hq=> ?_⟩,((Keep.refl _ w).drew).alloc _ _, .inr ⟨_,rfl,Nat.le_refl _⟩⟩
  ·have hf':=hf w.drew (fun _=>rfl);have hs2: ¬ (9223372036854775807<((n:Int)+(m:Int))):=(by omega);simp[Builtin.append_,run_underlying ht,sizeOf,typeInfo,zeroValue,hi,hz,Builtin.lenOf,hroom,hs2,h48,Question.forced,hold,hf',newRow,grownCap];rw[←Array.append_assoc];simp
  ·obtain rfl:=Option.some.inj hq;refine ⟨rfl,_,heap_alloc_new w.drew _, ?_, ?_⟩
   ·simp only[Array.size_append,List.size_toArray,size_zeroCells,hzs,hown.len,hsrc.len, ←Nat.add_mul];exact Nat.mul_le_mul_right _ (by omega)
   ·simp only[Array.toList_append,List.append_assoc];rw[←List.append_assoc, ←hlen];exact List.take_left
structure SlT (P:Program) (t e:TypeId) (z:Value) (sz bytes:Nat):Prop where
 ty:P.underlying t=some (.slice e)
 info: ∃ i,P.info? e=some i/\i.zero=some z/\i.size=sz/\i.bytes=bytes
 zero:z.cells.size=sz
theorem SlT.mk' (ht:P.underlying t=some (.slice e)) (h:(P.info? e).map (fun i=>(i.zero,i.size,i.bytes))=some (some z,sz,bytes)) (hz:z.cells.size=sz):SlT P t e z sz bytes:=by
 obtain ⟨i,h0,h1,h2,h3⟩:=info_parts h;exact ⟨ht,⟨i,h0,h1,h2,h3⟩,hz⟩
theorem ZoH {K:Act->World->Prop} (s x:Operand) (t:TypeId)
  (ho:o.op= .call {callee:= .builtin .append,args:= #[s,x],argTypes:= #[t,t]}) (hT:SlT P t e z sz bytes)
  (hs:A.eval s= .slice a n cap) (hown:Own w e sz a n cap cs) {b:Option Addr} {c:Nat} (hx:A.eval x= .slice b m c) (hsrc:Row w S sz b m c news) (h1: ∀ u∈news,u.oneCell'=true)
  (hbytes:(n+m)*bytes<=140737488355328) (h63:n+m<=maxLen)
  (h: ∀ a' cap' w',Apped w w' e sz a a' (n+m) cap' (cs++news)->K (A.put o.dst (.slice a' (n+m) cap')) w'):o.wp P A w K Q:=by
 obtain ⟨ht,⟨i,hi,hz,hsz,hby⟩,hzs⟩:=hT;obtain ⟨a',cap',w',hr,hap⟩:=ZjP (P:=P) w t o.type e i z sz bytes ht hi hz hsz hby hzs hown hsrc h1 hbytes h63;unfold Oper.wp execOp;simp only[ho,resolve,invoke,builtin,Sem.run_bind,Sem.run_pure,Result.andThen_ok,List.map_toArray,List.map_cons,List.map_nil,hs,hx,hr];exact h a' cap' w' hap
theorem Zx {ops:Array Oper} {rest:List Oper} (hgd:o.guard=none) (s x:Operand) (t:TypeId)
  (ho:o.op= .call {callee:= .builtin .append,args:= #[s,x],argTypes:= #[t,t]}) (hT:SlT P t e z sz bytes)
  (hs:A.eval s= .slice a n cap) (hown:Own w e sz a n cap cs) {b:Option Addr} {c:Nat} (hx:A.eval x= .slice b m c) (hsrc:Row w S sz b m c news) (h1: ∀ u∈news,u.oneCell'=true)
  (hbytes:(n+m)*bytes<=140737488355328) (h63:n+m<=maxLen)
  (h: ∀ a' cap' w',Apped w w' e sz a a' (n+m) cap' (cs++news)->wpList P ops Q rest (A.put o.dst (.slice a' (n+m) cap')) w'):wpList P ops Q (o::rest) A w:=by
 obtain ⟨ht,⟨i,hi,hz,hsz,hby⟩,hzs⟩:=hT;refine wpList_plain hgd fun K hK=> ?_;obtain ⟨a',cap',w',hr,hap⟩:=ZjP (P:=P) w t o.type e i z sz bytes ht hi hz hsz hby hzs hown hsrc h1 hbytes h63;unfold Oper.wp execOp;simp only[ho,resolve,invoke,builtin,Sem.run_bind,Sem.run_pure,Result.andThen_ok,List.map_toArray,List.map_cons,List.map_nil,hs,hx,hr];exact hK _ _ (h a' cap' w' hap)
theorem Row.built {cs:Array Value} (n:Nat) (hn:n<=maxLen) (hs:cs.size=n*sz) (hS:S w.heap.size):Row (w.alloc (.cells cs e)) S sz (some ⟨w.heap.size,0,none⟩) n n cs.toList:=
 (Own.fresh hn hs).row fun g hg=>by simp at hg;subst hg;exact hS
theorem SlT.make (hT:SlT P t e z sz bytes) (hb:bytes*n<=281474976710656) (h63:n<=maxLen) (w:World):
  (Instr.makeSlice t (.int .i64 (n:Int)) (.int .i64 (n:Int))).run P w= .ok (.slice (some ⟨w.heap.size,0,none⟩) n n) (w.alloc (.cells (madeCells z.cells (n*sz)) e)):=by
 obtain ⟨ht,⟨i,hi,hz,hsz,hby⟩,hzs⟩:=hT;have h:=run_make (P:=P) w t e i z ht hi hz .i64 .i64 (n:Int) (n:Int) (by omega) (Int.le_refl _) (by
  have h':((bytes*n:Nat):Int)<=281474976710656:=by omega
  rw[Int.natCast_mul] at h';rw[hby];exact h') (by simp only[maxLen] at h63;omega)
 simpa [hsz] using h
theorem ZU {k:IntKind} {a b:Int} (h:a=b):Ending.returned (.int k a)= .returned (.int k b):=by rw[h]
theorem Zt {a b:Bool} (h:a=b):Ending.returned (.bool a)= .returned (.bool b):=by rw[h]
def ZcQ (a:Option Addr) (cap l sz:Nat):Option Addr:=if cap=l then a else a.map (·.add (l*sz))
theorem SlT.sliceH (hT:SlT P t e z sz bytes) (hk:k<=cap) (w:World):
  (Instr.slice t (.slice a n cap) none (some (.int .i64 (k:Int))) none).run P w= .ok (.slice a k cap) w:=by
 obtain ⟨ht,⟨i,hi,hz,hsz,hby⟩,hzs⟩:=hT;have h0: ∀ p:Addr,p.add 0=p:=fun p=>by cases p;rename_i b o s;cases s<;>simp[Addr.add]
 have hb:=run_sliceBound (P:=P) (w:=w) .i64 (k:Int) cap .sliceAcap (by omega) (by omega);cases a<;>simp[Instr.slice,run_underlying ht,Instr.sliceBounds,hb,sizeOf,typeInfo,hi,h0]
theorem SlT.sliceL (hT:SlT P t e z sz bytes) (hl:l<=n) (w:World):
  (Instr.slice t (.slice a n cap) (some (.int .i64 (l:Int))) none none).run P w= .ok (.slice (ZcQ a cap l sz) (n-l) (cap-l)) w:=by
 obtain ⟨ht,⟨i,hi,hz,hsz,hby⟩,hzs⟩:=hT;have hb:=run_sliceBound (P:=P) (w:=w) .i64 (l:Int) n .sliceB (by omega) (by omega);simp[Instr.slice,run_underlying ht,Instr.sliceBounds,hb,sizeOf,typeInfo,hi,hsz,ZcQ]
theorem SlT.sliceLH (hT:SlT P t e z sz bytes) (hl:l<=k) (hk:k<=cap) (w:World):
  (Instr.slice t (.slice a n cap) (some (.int .i64 (l:Int))) (some (.int .i64 (k:Int))) none).run P w= .ok (.slice (ZcQ a cap l sz) (k-l) (cap-l)) w:=by
 obtain ⟨ht,⟨i,hi,hz,hsz,hby⟩,hzs⟩:=hT;have hb:=run_sliceBound (P:=P) (w:=w) .i64 (k:Int) cap .sliceAcap (by omega) (by omega);have hb2:=run_sliceBound (P:=P) (w:=w) .i64 (l:Int) k .sliceB (by omega) (by omega);simp[Instr.slice,run_underlying ht,Instr.sliceBounds,hb,hb2,sizeOf,typeInfo,hi,hsz,ZcQ]
theorem SlT.sliceAt (hT:SlT P t e z sz bytes) (x:Value) (lo hi mx:Option Value) (w:World):(Instr.sliceAt t x lo hi mx).run P w=(Instr.slice t x lo hi mx).run P w:=by
 simp[Instr.sliceAt,run_underlying hT.ty]
theorem SlT.atH (hT:SlT P t e z sz bytes) (hi:i=k) (hk:k<=cap) (w:World):
  (Instr.sliceAt t (.slice a n cap) none (some (.int .i64 i)) none).run P w= .ok (.slice a k cap) w:=by subst hi;rw[hT.sliceAt];exact hT.sliceH hk w
theorem SlT.atL (hT:SlT P t e z sz bytes) (hi:i=l) (hl:l<=n) (w:World):
  (Instr.sliceAt t (.slice a n cap) (some (.int .i64 i)) none none).run P w= .ok (.slice (ZcQ a cap l sz) (n-l) (cap-l)) w:=by subst hi;rw[hT.sliceAt];exact hT.sliceL hl w
theorem SlT.atLH (hT:SlT P t e z sz bytes) {j:Int} (hi:i=l) (hj:j=k) (hl:l<=k) (hk:k<=cap) (w:World):
  (Instr.sliceAt t (.slice a n cap) (some (.int .i64 i)) (some (.int .i64 j)) none).run P w= .ok (.slice (ZcQ a cap l sz) (k-l) (cap-l)) w:=by subst hi;subst hj;rw[hT.sliceAt];exact hT.sliceLH hl hk w
theorem Row.sub (h:Row w S sz a n cap cs) (hl:l<=k) (hk:k<=n):
  Row w S sz (ZcQ a cap l sz) (k-l) (cap-l) ((cs.drop (l*sz)).take ((k-l)*sz)):=by
 have h1:=h.len;have h2:=h.le;have h3:=h.max;have h4:(k-l)*sz<=(n-l)*sz:=Nat.mul_le_mul_right _ (by omega);have h5:(n-l)*sz=n*sz-l*sz:=Nat.sub_mul _ _ _;refine ⟨by simp;omega,by omega,by omega,fun e=> ?_,fun hne=> ?_⟩
 ·have h6:a=none:=by
   cases a with
   |none=>rfl
   |some p=>unfold ZcQ at e;split at e<;>simp at e
  have:=h.nil h6;omega
 ·have hcs:cs≠[]:=by intro e;subst e;simp at hne
  obtain ⟨b,off,rfl,hS,hc⟩:=h.addr hcs;have hkl:0<(k-l)*sz:=by
   rcases Nat.eq_zero_or_pos ((k-l)*sz) with h0|h0
   ·rw[h0] at hne;simp at hne
   ·exact h0
  have hne2:cap≠l:=by intro e;have:k-l=0:=(by omega);rw[this] at hkl;simp at hkl
  have e2:ZcQ (some ⟨b,off,none⟩) cap l sz=some ⟨b,off+l*sz,none⟩:=by unfold ZcQ;rw[if_neg hne2];simp[Addr.add]
  refine ⟨b,off+l*sz,e2,hS,fun j c hj=> ?_⟩;rw[List.getElem?_take] at hj;split at hj
  ·rw[List.getElem?_drop] at hj;have:=hc _ c hj
   rwa [Nat.add_assoc]
  ·cases hj
theorem RdI.sub (h:RdI w S a n cap xs) (hl:l<=k) (hk:k<=n):
  RdI w S (ZcQ a cap l 1) (k-l) (cap-l) ((xs.drop l).take (k-l)):=by
 refine ⟨?_,fun x hx=>h.rng x (List.mem_of_mem_drop (List.mem_of_mem_take hx))⟩;have:=h.row.sub hl hk;simpa [List.map_take,List.map_drop] using this
theorem RdI.pre (h:RdI w S a n cap xs) (hk:k<=n):RdI w S a k cap (xs.take k):=by
 refine ⟨⟨by have:=h.row.len;simp at this ⊢;omega,by have:=h.row.le;omega,h.row.max,h.row.nil,fun hne=> ?_⟩,fun x hx=>h.rng x (List.mem_of_mem_take hx)⟩;have hcs:ints xs≠[]:=by intro e;apply hne;rw[show ints (xs.take k)=(ints xs).take k from by simp[List.map_take],e];exact List.take_nil
 obtain ⟨b,off,rfl,hS,hc⟩:=h.row.addr hcs;refine ⟨b,off,rfl,hS,fun j c hj=>hc j c ?_⟩;rw[show ints (xs.take k)=(ints xs).take k from by simp[List.map_take],List.getElem?_take] at hj;split at hj
 ·exact hj
 ·cases hj
def Op.plain:Op->Bool
 | .move _| .assign _| .pick .. | .load .. | .binOp .. | .unOp .. | .slice .. | .fieldAddr .. | .field .. | .indexAddr .. | .index .. | .extract .. | .convert .. | .nilCheck _=>true
 | .call {callee:= .builtin .len, ..}| .call {callee:= .builtin .min, ..}| .call {callee:= .builtin .max, ..}=>true
 |_=>false
theorem Op.plain_run {ρ:Operand->Value} (h:Op.plain o.op=true) {r:Next} (hr:(execOp ρ o).run P w= .ok r w'): ∃ v,r= .value v:=by
 obtain ⟨dst,op,type,pos,after,guard⟩:=o;have key: ∀ (e:Sem Value),(do pure (Next.value (←e)):Sem Next).run P w= .ok r w'-> ∃ v,r= .value v:=fun e he=>by
  rw[Sem.run_bind] at he;cases hx:e.run P w with
  |ok v u=>rw[hx] at he;simp at he;exact ⟨v,he.1.symm⟩
  |halt x u=>rw[hx] at he;simp[Result.andThen] at he
 cases op<;>simp only[Op.plain] at h<;>try contradiction
 case call c=>
  obtain ⟨callee,args,ats⟩:=c;cases callee with
  |builtin b=>cases b<;>first |exact key _ hr|(simp at h;done)
  |value f=>simp at h
  |invoke f m=>simp at h
 case nilCheck x=>
  have bindk: ∀ {α:Type} (e:Sem α) (f:α->Sem Next),(∀ a u r u',(f a).run P u= .ok r u'-> ∃ v,r= .value v)-> ∀ u r u',(e >>=f).run P u= .ok r u'-> ∃ v,r= .value v:=fun e f hf u r u' he=>by
   rw[Sem.run_bind] at he;cases hx:e.run P u with
   |ok v q=>rw[hx] at he;exact hf _ _ _ _ he
   |halt x q=>rw[hx] at he;simp[Result.andThen] at he
  simp only[execOp] at hr;split at hr;all_goals first
   |(simp[runtimePanic] at hr;done)
   |(simp at hr;exact ⟨_,hr.1.symm⟩)
   | (split at hr
      all_goals first
       |(simp[runtimePanic] at hr;done)
       |(simp at hr;exact ⟨_,hr.1.symm⟩)
       | exact bindk _ _ (fun a u r u' h => bindk _ _ (fun b u r u' h => by
         split at h
         ·exact bindk _ _ (fun c u r u' h=>by simp at h;exact ⟨_,h.1.symm⟩) _ _ _ h
         ·simp at h;exact ⟨_,h.1.symm⟩) _ _ _ h) _ _ _ hr)
 case pick c x y=>
  simp[execOp] at hr;cases hx:(asBool (ρ c)).run P w with
  |ok v u=>rw[hx] at hr;simp at hr;exact ⟨_,hr.1.symm⟩
  |halt x u=>rw[hx] at hr;simp[Result.andThen] at hr
 all_goals first
  |exact key _ hr
  |(simp[execOp] at hr;exact ⟨_,hr.1.symm⟩)
def Zaw (ops:Array Oper):List Nat->Array Bool->Option (Array Bool)
 |[],listed=>some listed
 |i::r,listed=>if (Region.ready .any ops listed).contains i&&Region.free .any ops listed i&&((ops[i]?).map fun o=>Op.plain o.op&&o.dst.isSome).getD false then Zaw ops r (listed.setIfInBounds i true) else none
def ZfM (ops:Array Oper):List Nat->Array Bool->Bool
 |[],listed=>(Region.ready .any ops listed).isEmpty
 |i::r,listed=>Region.ready .any ops listed==[i]&&ZfM ops r (listed.setIfInBounds i true)
def Zsz (ops:Array Oper) (p1 p2:List Nat):Bool:=
 Region.noSelect ops&&p1.length+p2.length==ops.size&&match Zaw ops p1 (Array.replicate ops.size false) with
  |some listed=>ZfM ops p2 listed
  |none=>false
def Zbk (P:Program) (ops:Array Oper) (S:World->Prop) (Q:Exit->Act->World->Prop):List Oper->Act->World->Prop
 |[],a,w=>Q .normal a w
 |o::rest,a,w=>if Region.wanted o (yielded ops a.tmps) then o.wp P a w (fun a' w'=>S w'/\Zbk P ops S Q rest a' w') Q else S w/\Zbk P ops S Q rest (a.put o.dst undef) w
section
variable {P:Program} {ops:Array Oper} {S:World->Prop} {Q:Exit->Act->World->Prop}
theorem Zcn {o:Oper} {rest:List Oper} {a:Act} {w:World} (hg:o.guard=none) (h: ∀ K:Act->World->Prop,(∀ a w,S w->Zbk P ops S Q rest a w->K a w)->o.wp P a w K Q):Zbk P ops S Q (o::rest) a w:=by
 unfold Zbk;rw[if_pos (by simp[Region.wanted,hg])];exact h _ fun a w h1 h2=>⟨h1,h2⟩
theorem Zmz {a:Act} {w:World} (h:Q .normal a w):Zbk P ops S Q [] a w:=h
theorem Zet: ∀ (p:List Nat) (l:List Oper) (listed:Array Bool) (a:Act) (w:World),p.map (ops[·]?)=l.map some->ZfM ops p listed=true->Zbk P ops S Q l a w->wpAnyH P .any ops Q S p.length listed a w
 |[],[],listed,a,w,_,hB,h=>⟨by simpa [ZfM] using hB,h⟩
 |[],_::_,_,_,_,hl,_,_=>by simp at hl
 |_::_,[],_,_,_,hl,_,_=>by simp at hl
 |i::p,o::l,listed,a,w,hl,hB,h=>by
  simp only[List.map_cons,List.cons.injEq] at hl;simp only[ZfM,Bool.and_eq_true,beq_iff_eq] at hB;refine wpAnyH_all hB.1 (by simp) fun j hj=> ?_;obtain rfl:=List.mem_singleton.1 hj;unfold wpOp;simp only[hl.1];unfold Zbk at h;split
  ·rename_i hw;rw[if_pos hw] at h;exact .inl (Oper.wp_mono (fun a' w' h'=>⟨h'.1,Zet p l _ a' w' hl.2 hB.2 h'.2⟩) h)
  ·rename_i hw;rw[if_neg hw] at h;exact ⟨h.1,Zet p l _ _ w hl.2 hB.2 h.2⟩
theorem ZgK (hsel:Region.noSelect ops=true) (hQ: ∀ c (a:Act) d v w,Q (.panic c) (a.put (some d) v) w->Q (.panic c) a w) {p2:List Nat} {l2:List Oper} {w:World} (hS:S w) (h2:p2.map (ops[·]?)=l2.map some):
  ∀ (p:List Nat) (l:List Oper) (listed listed':Array Bool) (a:Act),p.map (ops[·]?)=l.map some->Zaw ops p listed=some listed'->ZfM ops p2 listed'=true->wpQuiet P ops S (fun a'=>Zbk P ops S Q l2 a' w) l a->wpAnyH P .any ops Q S (p.length+p2.length) listed a w
 |[],[],listed,listed',a,_,hF,hB,h=>by simp only[Zaw,Option.some.injEq] at hF;subst hF;simpa using Zet p2 l2 listed a w h2 hB h
 |[],_::_,_,_,_,hl,_,_,_=>by simp at hl
 |_::_,[],_,_,_,hl,_,_,_=>by simp at hl
 |i::p,o::l,listed,listed',a,hl,hF,hB,h=>by
  simp only[List.map_cons,List.cons.injEq] at hl;simp only[Zaw] at hF;split at hF
  ·rename_i hc;simp only[Bool.and_eq_true,hl.1,Option.map_some,Option.getD_some] at hc;obtain ⟨⟨hr,hf⟩,hp,hd⟩:=hc;obtain ⟨d,hd⟩:=Option.isSome_iff_exists.1 hd;have ih:=fun a' h'=>ZgK hsel hQ hS h2 p l _ listed' a' hl.2 hF hB h';rw[List.length_cons,Nat.add_right_comm];unfold wpQuiet at h;by_cases hw:Region.wanted o (yielded ops a.tmps)=true
   ·rw[if_pos hw] at h;obtain ⟨v,hv,hK⟩:=h;refine wpAnyH_take (v:=v) hl.1 hsel hf hr (fun c a w hh=>by rw[hd] at hh;exact hQ c a d v w hh) (.inl ⟨hw,fun w' hw'=> ?_⟩) hS (ih _ hK);have:=hv w' hw';unfold Oper.quietAt at this;cases hrun:(execOp a.eval o).run P w' with
    |halt x u=>rw[hrun] at this;simp[Oper.quietUpon] at this
    |ok r u=>obtain ⟨v',rfl⟩:=Op.plain_run hp hrun;rw[hrun] at this;simp only[Oper.quietUpon] at this;rw[this.1,this.2]
   ·rw[if_neg hw] at h;exact wpAnyH_take (v:=undef) hl.1 hsel hf hr (fun c a w hh=>by rw[hd] at hh;exact hQ c a d undef w hh) (.inr ⟨by simpa using hw,rfl⟩) hS (ih _ h)
  ·cases hF
def Zbx (l:List Oper):List Nat->List Oper
 |[]=>[]
 |i::r=>match l[i]? with
  |some o=>o::Zbx l r
  |none=>Zbx l r
theorem Zbp {l:List Oper}: ∀ {p:List Nat},(p.all (· <l.length))=true->p.map (l.toArray[·]?)=(Zbx l p).map some
 |[],_=>rfl
 |i::r,h=>by simp only[List.all_cons,Bool.and_eq_true,decide_eq_true_eq] at h;have h1:l[i]? =some l[i]:=List.getElem?_eq_getElem h.1;simp only[List.map_cons,Zbx,h1,Zbp h.2];simp[h1]
theorem ZkT {id:Nat} {l:List Oper} {a:Act} {w:World} (p1 p2:List Nat) (hm:P.follows .mixedOrders=true) (hB:(Zsz l.toArray p1 p2&&(p1.all (· <l.length)&&p2.all (· <l.length)))=true)
  (hQ: ∀ c (a:Act) d v w,Q (.panic c) (a.put (some d) v) w->Q (.panic c) a w) (hS:S w.drew)
  (h:wpQuiet P l.toArray S (fun a'=>Zbk P l.toArray S Q (Zbx l p2) a' w.drew) (Zbx l p1) a):(Code.region id l.toArray true).wp P Q a w:=by
 simp only[Zsz,Bool.and_eq_true,beq_iff_eq] at hB;obtain ⟨⟨⟨hsel,hn⟩,hB⟩,h1,h2⟩:=hB;refine wp_region_held (S:=S) hm ?_;split at hB
 ·rename_i listed' hF;have:=ZgK (P:=P) (S:=S) (Q:=Q) hsel hQ hS (Zbp h2) p1 _ _ listed' a (Zbp h1) hF hB h;rw[hn] at this;exact this
 ·cases hB
end
theorem Zdt {i:Nat} {f:Nat->α} (h:i<n):((List.range n).map f)[i]? =some (f i):=by
 simp[h]
theorem ZH {l:List α} {x:α} (h:l[k]? =some x):l.take (k+1)=l.take k++[x]:=by
 rw[List.take_add_one,h];rfl
theorem Z7 {l:List α} (hl:l.length=n):l.take n=l:=by rw[←hl];exact List.take_length
theorem putP:(∀ (a:Act) (d:Tmp) (v:Value),a.put (some d) v={a with tmps:=a.tmps.setIfInBounds d v})/\(∀ (a:Act) (v:Value),a.put none v=a)/\(∀ {α:Type} (l:List α) (i:Nat) (x:α),l.toArray.setIfInBounds i x=(l.set i x).toArray)/\(∀ {α:Type} (l:List α) (a b:α) (n:Nat),(a::l).set (n+1) b=a::l.set n b)/\ ∀ {α:Type} (l:List α) (a b:α),(a::l).set 0 b=b::l:=⟨fun _ _ _=>rfl,fun _ _=>rfl,fun _ _ _=>by simp,fun _ _ _ _=>rfl,fun _ _ _=>rfl⟩
theorem al1 (w:World) (c0:Array Value) (t0:TypeId): ∃ w',w'=w.alloc (.cells c0 t0)/\Grow w w'/\Blk w' (w.heap.size) c0 t0/\w'.heap.size=w.heap.size+1:=⟨_,rfl,(Grow.refl w).alloc _ _,Blk.new _ _ _,by simp⟩
theorem al2 (w:World) (c0:Array Value) (t0:TypeId) (c1:Array Value) (t1:TypeId): ∃ w',w'=(w.alloc (.cells c0 t0)).alloc (.cells c1 t1)/\Grow w w'/\Blk w' (w.heap.size) c0 t0/\Blk w' (w.heap.size+1) c1 t1/\w'.heap.size=w.heap.size+1+1:=⟨_,rfl,((Grow.refl w).alloc _ _).alloc _ _,(Blk.new _ _ _).alloc _,Blk.newAt _ _ _ (by simp),by simp⟩
theorem al3 (w:World) (c0:Array Value) (t0:TypeId) (c1:Array Value) (t1:TypeId) (c2:Array Value) (t2:TypeId): ∃ w',w'=((w.alloc (.cells c0 t0)).alloc (.cells c1 t1)).alloc (.cells c2 t2)/\Grow w w'/\Blk w' (w.heap.size) c0 t0/\Blk w' (w.heap.size+1) c1 t1/\Blk w' (w.heap.size+1+1) c2 t2/\w'.heap.size=w.heap.size+1+1+1:=⟨_,rfl,(((Grow.refl w).alloc _ _).alloc _ _).alloc _ _,((Blk.new _ _ _).alloc _).alloc _,(Blk.newAt _ _ _ (by simp)).alloc _,Blk.newAt _ _ _ (by simp),by simp⟩
theorem al4 (w:World) (c0:Array Value) (t0:TypeId) (c1:Array Value) (t1:TypeId) (c2:Array Value) (t2:TypeId) (c3:Array Value) (t3:TypeId): ∃ w',w'=(((w.alloc (.cells c0 t0)).alloc (.cells c1 t1)).alloc (.cells c2 t2)).alloc (.cells c3 t3)/\Grow w w'/\Blk w' (w.heap.size) c0 t0/\Blk w' (w.heap.size+1) c1 t1/\Blk w' (w.heap.size+1+1) c2 t2/\Blk w' (w.heap.size+1+1+1) c3 t3/\w'.heap.size=w.heap.size+1+1+1+1:=⟨_,rfl,((((Grow.refl w).alloc _ _).alloc _ _).alloc _ _).alloc _ _,(((Blk.new _ _ _).alloc _).alloc _).alloc _,((Blk.newAt _ _ _ (by simp)).alloc _).alloc _,(Blk.newAt _ _ _ (by simp)).alloc _,Blk.newAt _ _ _ (by simp),by simp⟩

end Go.Proofs.YtjpcgofidijigaaGreatDoor

namespace Go.Proofs.YtjpcgofidijigaaGreatDoor
open Go.ChangeShapes Go.WideShapes Go.ChangeAt Go.RowKit
theorem Zg3 {H:Type} {enc:TypeId×Value->H} {P:Program} (hl:laidOutB P=true) {W W':World} (hg:Grow W W') (sp:Nat->Bool):
  ∀ (ts:List TypeId) (vs:List Value) (ds:List (DataW H)) (ps:List MemPlace),(∀ t∈ts,P.readableRec t=true/\t<P.types.size)->
   DataW.TrodAll enc P W 0 (fun _=>true) true ts vs ds ps->(∀ x∈ps,x.block<W.heap.size/\sp x.block=true)->DataW.TrodAll enc P W' 0 sp true ts vs ds ps
 |[],vs,ds,ps,_,h,_=>by obtain ⟨rfl,rfl,rfl⟩:=trodAll_nil h;exact trodAll_mk0
 |t::ts,vs,ds,ps,hp,h,hlt=>by
  obtain ⟨v,vs',d,ds',p,q,rfl,rfl,rfl,h1,h2⟩:=trodAll_cons h;have ht:=hp t (List.mem_cons_self)
  exact ⟨p,q,WideElems.Trod_stays hl ht.1 ht.2 h1 (fun x hx=>hg.below.same (hlt x (List.mem_append_left _ hx)).1) (fun x hx=>(hlt x (List.mem_append_left _ hx)).2),
   Zg3 hl hg sp ts vs' ds' q (fun u hu=>hp u (List.mem_cons_of_mem _ hu)) h2 (fun x hx=>hlt x (List.mem_append_right _ hx)),rfl⟩
theorem Zoc {H:Type} {enc:TypeId×Value->H} {P:Program} {f:Func} {s:ChangeSpec} {apart fresh handsOn again:Bool} {W W':World} {args:Array Value} {v:Value} {ds gs:List (DataW H)} {before pa pv:List MemPlace}
  (hW:DataW.Whole enc P f.params.toList s.vars apart W args.toList ds gs before)
  (hres: ∀ (b:Nat) (sp:Nat->Bool) (hd:Bool),DataW.TrodAll enc P W' b sp hd f.resultTypes.toList (v.resultList f.resultTypes.size) (s.fn H (ds++gs)).results [])
  (hargs: ∀ sp:Nat->Bool,(∀ p∈before,sp p.block=true)->DataW.TrodAll enc P W' 0 sp true f.params.toList args.toList (s.fn H (ds++gs)).args pa)
  (hvars: ∀ sp:Nat->Bool,(∀ p∈before,sp p.block=true)->DataW.TrodVars enc P W' sp s.vars (s.fn H (ds++gs)).vars pv)
  (hps:before=pa++pv) (hk:W.keptBut W' (· ∈before)) (hfz: ∀ a:Addr,a.block<W.heap.size->W'.frozen? a=W.frozen? a)
  (hok: ∀ (j:Nat) (t:TypeId) (r:Value),f.resultTypes[j]? =some t->(v.resultList f.resultTypes.size)[j]? =some r->Value.okWide P W' .any 0 t r):
  s.post enc P f apart fresh handsOn again W args v W':=by
 have hlt:=fun p hp=>hW.lt p hp;have hold: ∀ p∈before,(fun b=>decide (b<W.heap.size)) p.block=true:=fun p hp=>by simpa using hlt p hp
 refine ⟨ds,gs,before,[],pa,pv,hW,hres _ _ _,hargs _ hold,hvars _ hold,World.keptBut_mono (fun p hp=>⟨hp, ?_⟩) hk,fun _=> ?_⟩
 ·rw[hps,List.mem_append] at hp;exact Or.inr hp
 ·obtain ⟨_,_,_,_,_,hz,hn⟩:=hW;refine ⟨hok,_,_,([]++pa)++pv,⟨[]++pa,pv,trodAll_append (hargs _ (fun _ _=>rfl)) (hres _ _ _),hvars _ (fun _ _=>rfl),rfl, ?_, ?_⟩, ?_⟩
  ·intro b off hp;have hb:MemPlace.cell b off∈before:=(by rw[hps];simpa using hp);rw[hfz _ (hlt _ hb)];exact hz b off hb
  ·intro ha;have:=hn ha;rw[hps] at this;simpa using this
  ·intro p hp _;rw[hps];simpa using hp
section
variable {H:Type} {enc:TypeId×Value->H} {P:Program} {w:World}
end
end Go.Proofs.YtjpcgofidijigaaGreatDoor

namespace Go.Proofs.YtjpcgofidijigaaGreatDoor
open Go.RowKit
variable {N:Act->World->Prop} {P:Program} {Q:Exit->Act->World->Prop} {S:World->Prop} {a:Act} {b:Option Addr} {cs:List Value} {id last:Nat} {l:List Oper} {o:Oper} {ops:Array Oper} {w:World}
theorem ZsK:ownKnob Tryz.prog.godebug=none:=by kernel_rfl
theorem Zsu:laidOutB Tryz.prog=true:=by kernel_rfl
theorem Zm:Tryz.prog.follows .mixedOrders=true:=by kernel_rfl
theorem T_ints:SlT Tryz.prog 32 3 (.int .i64 0) 1 8:=SlT.mk' Tryz.underlying32 (by kernel_rfl) rfl
theorem ZjO:SlT Tryz.prog 81 32 (.slice none 0 0) 1 24:=SlT.mk' Tryz.underlying81 (by kernel_rfl) rfl
theorem Zv:CellT Tryz.prog 3:=CellT.int Tryz.underlying3
theorem ZdE:CellT Tryz.prog 32:=CellT.slice Tryz.underlying32
theorem ZbF:CellT Tryz.prog 4:=CellT.bool Tryz.underlying4
theorem ZaE:CellT Tryz.prog 9:=CellT.string Tryz.underlying9
theorem Zc:StT Tryz.prog 34 3:=⟨_,Tryz.underlying34,by kernel_rfl⟩
def Zcz (ops:Array Oper):List (List Nat×Option Nat)->Array Bool->Bool
 |[],listed=>(Region.ready .any ops listed).isEmpty
 |(fs,none)::r,listed=>match Zaw ops fs listed with
  |some l'=>Zcz ops r l'
  |none=>false
 |(fs,some i)::r,listed=>match Zaw ops fs listed with
  |some l'=>Region.ready .any ops l'==[i]&&Zcz ops r (l'.setIfInBounds i true)
  |none=>false
def Zew:List (List Nat×Option Nat)->Nat
 |[]=>0
 |(fs,none)::r=>fs.length+Zew r
 |(fs,some _)::r=>fs.length+(Zew r+1)
def Zcx (n:Nat):List (List Nat×Option Nat)->Bool
 |[]=>true
 |(fs,none)::r=>fs.all (· <n)&&Zcx n r
 |(fs,some i)::r=>fs.all (· <n)&&(decide (i<n)&&Zcx n r)
def Zdk (P:Program) (ops:Array Oper) (l:List Oper) (S:World->Prop) (Q:Exit->Act->World->Prop):List (List Nat×Option Nat)->Act->World->Prop
 |[],a,w=>Q .normal a w
 |(fs,none)::r,a,w=>wpQuiet P ops S (fun a'=>Zdk P ops l S Q r a' w) (Zbx l fs) a
 | (fs, some i) :: r, a, w => wpQuiet P ops S (fun a' => match l[i]? with
   |some o=>if Region.wanted o (yielded ops a'.tmps) then o.wp P a' w (fun a2 w2=>S w2/\Zdk P ops l S Q r a2 w2) Q else S w/\Zdk P ops l S Q r (a'.put o.dst undef) w
   |none=>False) (Zbx l fs) a
section
variable {P:Program} {ops:Array Oper} {S:World->Prop} {Q:Exit->Act->World->Prop}
theorem ZcI (hsel:Region.noSelect ops=true) (hQ: ∀ c (a:Act) d v w,Q (.panic c) (a.put (some d) v) w->Q (.panic c) a w) {w:World} (hS:S w) (n2:Nat) (K:Act->Prop):
  ∀ (p:List Nat) (l:List Oper) (listed listed':Array Bool) (a:Act),p.map (ops[·]?)=l.map some->Zaw ops p listed=some listed'->wpQuiet P ops S K l a->(∀ a',K a'->wpAnyH P .any ops Q S n2 listed' a' w)->wpAnyH P .any ops Q S (p.length+n2) listed a w
 |[],[],listed,listed',a,_,hF,h,hK=>by simp only[Zaw,Option.some.injEq] at hF;subst hF;simpa using hK a h
 |[],_::_,_,_,_,hl,_,_,_=>by simp at hl
 |_::_,[],_,_,_,hl,_,_,_=>by simp at hl
 |i::p,o::l,listed,listed',a,hl,hF,h,hK=>by
  simp only[List.map_cons,List.cons.injEq] at hl;simp only[Zaw] at hF;split at hF
  ·rename_i hc;simp only[Bool.and_eq_true,hl.1,Option.map_some,Option.getD_some] at hc;obtain ⟨⟨hr,hf⟩,hp,hd⟩:=hc;obtain ⟨d,hd⟩:=Option.isSome_iff_exists.1 hd;have ih:=fun a' h'=>ZcI hsel hQ hS n2 K p l _ listed' a' hl.2 hF h' hK;rw[List.length_cons,Nat.add_right_comm];unfold wpQuiet at h;by_cases hw:Region.wanted o (yielded ops a.tmps)=true
   ·rw[if_pos hw] at h;obtain ⟨v,hv,hK'⟩:=h;refine wpAnyH_take (v:=v) hl.1 hsel hf hr (fun c a w hh=>by rw[hd] at hh;exact hQ c a d v w hh) (.inl ⟨hw,fun w' hw'=> ?_⟩) hS (ih _ hK');have:=hv w' hw';unfold Oper.quietAt at this;cases hrun:(execOp a.eval o).run P w' with
    |halt x u=>rw[hrun] at this;simp[Oper.quietUpon] at this
    |ok r u=>obtain ⟨v',rfl⟩:=Op.plain_run hp hrun;rw[hrun] at this;simp only[Oper.quietUpon] at this;rw[this.1,this.2]
   ·rw[if_neg hw] at h;exact wpAnyH_take (v:=undef) hl.1 hsel hf hr (fun c a w hh=>by rw[hd] at hh;exact hQ c a d undef w hh) (.inr ⟨by simpa using hw,rfl⟩) hS (ih _ h)
  ·cases hF
theorem ZbG (l:List Oper) (hops:ops=l.toArray) (hsel:Region.noSelect ops=true) (hQ: ∀ c (a:Act) d v w,Q (.panic c) (a.put (some d) v) w->Q (.panic c) a w):
  ∀ (sg:List (List Nat×Option Nat)) (listed:Array Bool) (a:Act) (w:World),S w->Zcx l.length sg=true->Zcz ops sg listed=true->Zdk P ops l S Q sg a w->wpAnyH P .any ops Q S (Zew sg) listed a w
 |[],listed,a,w,hS,_,hB,h=>⟨by simpa [Zcz] using hB,h⟩
 |(fs,none)::r,listed,a,w,hS,hin,hB,h=>by
  simp only[Zcz] at hB;simp only[Zcx,Bool.and_eq_true] at hin;split at hB
  ·rename_i listed' hF;exact ZcI hsel hQ hS _ _ fs (Zbx l fs) listed listed' a (by rw[hops];exact Zbp hin.1) hF h fun a' h'=>ZbG l hops hsel hQ r listed' a' w hS hin.2 hB h'
  ·cases hB
 |(fs,some i)::r,listed,a,w,hS,hin,hB,h=>by
  simp only[Zcz] at hB;simp only[Zcx,Bool.and_eq_true,decide_eq_true_eq] at hin;split at hB
  ·rename_i listed' hF;simp only[Bool.and_eq_true,beq_iff_eq] at hB;have hi:l[i]? =some l[i]:=List.getElem?_eq_getElem hin.2.1;refine ZcI hsel hQ hS _ _ fs (Zbx l fs) listed listed' a (by rw[hops];exact Zbp hin.1) hF h fun a' h'=> ?_;simp only[hi] at h';refine wpAnyH_all hB.1 (by simp) fun j hj=> ?_;obtain rfl:=List.mem_singleton.1 hj;unfold wpOp;have ho:ops[j]? =some l[j]:=(by rw[hops];simp);simp only[ho];split
   ·rename_i hw;rw[if_pos hw] at h';exact .inl (Oper.wp_mono (fun a2 w2 h2=>⟨h2.1,ZbG l hops hsel hQ r _ a2 w2 h2.1 hin.2.2 hB.2 h2.2⟩) h')
   ·rename_i hw;rw[if_neg hw] at h';exact ⟨h'.1,ZbG l hops hsel hQ r _ _ w hS hin.2.2 hB.2 h'.2⟩
  ·cases hB
end
theorem Zg (sg:List (List Nat×Option Nat)) (hm:P.follows .mixedOrders=true)
  (hB:(Region.noSelect l.toArray&&(Zew sg==l.length&&(Zcx l.length sg&&Zcz l.toArray sg (Array.replicate l.length false))))=true)
  (hQ: ∀ c (a:Act) d v w,Q (.panic c) (a.put (some d) v) w->Q (.panic c) a w) (hS:S w.drew) (h:Zdk P l.toArray l S Q sg a w.drew):(Code.region id l.toArray true).wp P Q a w:=by
 simp only[Bool.and_eq_true,beq_iff_eq] at hB;obtain ⟨hsel,hn,hin,hb⟩:=hB;refine wp_region_held (S:=S) hm ?_;have:=ZbG (P:=P) (Q:=Q) l rfl hsel hQ sg _ a _ hS hin hb h;rw[hn] at this;simpa using this
theorem Zf (hw:Region.wanted o (yielded ops a.tmps)=true)
  (h: ∀ K:Act->World->Prop,(∀ a w,S w->N a w->K a w)->o.wp P a w K Q):if Region.wanted o (yielded ops a.tmps)=true then o.wp P a w (fun a2 w2=>S w2/\N a2 w2) Q else S w/\N (a.put o.dst undef) w:=by
 rw[if_pos hw];exact h _ fun a w h1 h2=>⟨h1,h2⟩
theorem Zli (hw:Region.wanted o (yielded ops a.tmps)=false) (hS:S w)
  (h:N (a.put o.dst undef) w):if Region.wanted o (yielded ops a.tmps)=true then o.wp P a w (fun a2 w2=>S w2/\N a2 w2) Q else S w/\N (a.put o.dst undef) w:=by
 rw[if_neg (by rw[hw];simp)];exact ⟨hS,h⟩
theorem Zk (h:Q .normal a w):Zdk P ops l S Q [] a w:=h
def inB (x lo hi:Int):Bool:=decide (lo<=x)&&decide (x<=hi)
theorem ZbX (x lo hi:Int) (w:World):Calls Tryz.prog 50 #[.int .i64 x, .int .i64 lo, .int .i64 hi] w fun e w'=>e= .returned (.bool (inB x lo hi))/\w=w':=by
 unfold inB;by_cases h1:lo<=x
 ·have e1:decide (lo<=x)=true:=by simpa using h1
  go_enter Tryz.func50,Tryz.ntmps50;go_wp2;all_goals (go_ret;exact ⟨Zt (by simp[*]),rfl⟩)
 ·have e1:decide (lo<=x)=false:=by simpa using h1
  go_enter Tryz.func50,Tryz.ntmps50;go_wp2;all_goals (go_ret;exact ⟨Zt (by simp[*]),rfl⟩)
def Z9 (ops:Array Oper) (i:Nat):Option Tmp:=(ops[i]?).bind (·.dst)
def ZiL (ops:Array Oper) (R F:List Nat) (target:Array Bool):Nat->Array Bool->Bool
 |0,listed=>(R++F).all (fun i=>listed.getD i false)&&listed==target
 |n+1,listed=>match F.find? (fun i=>(Region.ready .any ops listed).contains i) with
  |some f=>Region.free .any ops listed f&&ZiL ops R F target n (listed.setIfInBounds f true)
  |none=> !(Region.ready .any ops listed).isEmpty&&(Region.ready .any ops listed).all fun i=>R.contains i&&ZiL ops R F target n (listed.setIfInBounds i true)
def ZeC (ops:Array Oper) (sz:Nat):List Nat->Bool
 |[]=>true
 | i :: R => (match ops[i]? with
   | some o => o.guard.isNone && (match o.dst with
     |some d=>decide (d<sz)&&R.all (fun j=>Z9 ops j !=some d)
     |none=>false)
   |none=>false)&&(!R.contains i&&ZeC ops sz R)
def Zaf (ops:Array Oper) (listed:Array Bool) (vs:Nat->Value):List Nat->Act->Act
 |[],a=>a
 |i::R,a=>Zaf ops listed vs R (if listed.getD i false=true then a.put (Z9 ops i) (vs i) else a)
def ZhE (ops:Array Oper) (vs:Nat->Value):List Nat->Act->Act
 |[],a=>a
 |i::R,a=>ZhE ops vs R (a.put (Z9 ops i) (vs i))
section
variable {ops:Array Oper}
theorem Zhw {listed:Array Bool} {vs:Nat->Value} {d:Option Tmp} {v:Value}: ∀ {R:List Nat} {a:Act},(∀ j∈R, ∀ q,d=some q->Z9 ops j≠some q)->Zaf ops listed vs R (a.put d v)=(Zaf ops listed vs R a).put d v
 |[],a,_=>rfl
 |i::R,a,h=>by
  unfold Zaf;have h1: ∀ q,d=some q->Z9 ops i≠some q:=h i (List.mem_cons_self);have h2: ∀ j∈R, ∀ q,d=some q->Z9 ops j≠some q:=fun j hj=>h j (List.mem_cons_of_mem _ hj);split
  ·rw[Act.put_comm a v (vs i) h1,Zhw h2]
  ·rw[Zhw h2]
theorem Zh5 {listed listed':Array Bool} {vs vs':Nat->Value}: ∀ {R:List Nat} {a:Act},(∀ j∈R,listed.getD j false=listed'.getD j false/\vs j=vs' j)->Zaf ops listed vs R a=Zaf ops listed' vs' R a
 |[],a,_=>rfl
 |i::R,a,h=>by unfold Zaf;obtain ⟨h1,h2⟩:=h i (List.mem_cons_self);rw[h1,h2];exact Zh5 fun j hj=>h j (List.mem_cons_of_mem _ hj)
theorem Zkw {listed:Array Bool} {vs:Nat->Value} {sz:Nat} {j:Nat} {v:Value}: ∀ {R:List Nat} {a:Act},ZeC ops sz R=true->j∈R->j<listed.size->listed.getD j false=false->
  Zaf ops (listed.setIfInBounds j true) (fun k=>if k=j then v else vs k) R a=(Zaf ops listed vs R a).put (Z9 ops j) v
 |[],a,_,hj,_,_=>by cases hj
 |i::R,a,hok,hj,hs,hf=>by
  simp only[ZeC,Bool.and_eq_true] at hok;obtain ⟨h1,h2,h3⟩:=hok;have hni:i∉R:=by simpa using h2
  by_cases e:i=j
  ·subst e;have hc:Zaf ops (listed.setIfInBounds i true) (fun k=>if k=i then v else vs k) R (a.put (Z9 ops i) v)=Zaf ops listed vs R (a.put (Z9 ops i) v):=
    Zh5 fun k hk=>by have hki:k≠i:=fun e=>hni (e▸hk);exact ⟨by rw[getD_set_ne false (Ne.symm hki)],by simp[hki]⟩
   have hd: ∀ k∈R, ∀ q,Z9 ops i=some q->Z9 ops k≠some q:=fun k hk q hq e=>by
    cases ho:ops[i]? with
    |none=>rw[ho] at h1;simp at h1
    |some o=>
     rw[ho] at h1;cases hd:o.dst with
     |none=>simp[hd] at h1
     |some d=>simp[hd] at h1;have:q=d:=(by unfold Z9 at hq;rw[ho] at hq;simp[hd] at hq;exact hq.symm);subst this;exact h1.2.2 k hk e
   have e1:Zaf ops listed vs (i::R) a=Zaf ops listed vs R a:=(by show Zaf ops listed vs R (if listed.getD i false=true then a.put (Z9 ops i) (vs i) else a)=_;rw[if_neg (by rw[hf];simp)]);have e2:Zaf ops (listed.setIfInBounds i true) (fun k=>if k=i then v else vs k) (i::R) a=Zaf ops (listed.setIfInBounds i true) (fun k=>if k=i then v else vs k) R (a.put (Z9 ops i) v):=(by show Zaf ops (listed.setIfInBounds i true) _ R (if (listed.setIfInBounds i true).getD i false=true then a.put (Z9 ops i) (if i=i then v else vs i) else a)=_;rw[if_pos (by simp[hs]),if_pos rfl]);rw[e1,e2,hc,Zhw hd]
  ·have hjR:j∈R:=by
    rcases List.mem_cons.1 hj with h|h
    ·exact (e h.symm).elim
    ·exact h
   unfold Zaf;rw[getD_set_ne false (Ne.symm e),if_neg e];exact Zkw h3 hjR hs hf
theorem Zkm {listed:Array Bool} {vs:Nat->Value}: ∀ {R:List Nat} {a:Act},(∀ j∈R,listed.getD j false=true)->Zaf ops listed vs R a=ZhE ops vs R a
 |[],a,_=>rfl
 |i::R,a,h=>by unfold Zaf ZhE;rw[if_pos (h i (List.mem_cons_self))];exact Zkm fun j hj=>h j (List.mem_cons_of_mem _ hj)
theorem Zjm {listed:Array Bool} {vs:Nat->Value}: ∀ {R:List Nat} {a:Act},(∀ j∈R,listed.getD j false=false)->Zaf ops listed vs R a=a
 |[],a,_=>rfl
 |i::R,a,h=>by unfold Zaf;rw[if_neg (by rw[h i (List.mem_cons_self)];simp)];exact Zjm fun j hj=>h j (List.mem_cons_of_mem _ hj)
theorem ZmD {a:Act} {d:Option Tmp} {v:Value} {s:Nat} (h:d≠some s):(a.put d v).tmps.getD s undef=a.tmps.getD s undef:=by
 cases d with
 |none=>rfl
 |some q=>have:q≠s:=fun e=>h (by rw[e]);simp[Act.put,Array.getElem?_setIfInBounds_ne this]
theorem Zrb {a:Act} {d:Option Tmp} {v:Value}:(a.put d v).tmps.size=a.tmps.size:=by
 cases d<;>simp[Act.put]
theorem ZdV {listed:Array Bool} {vs:Nat->Value} {s:Nat}: ∀ {R:List Nat} {a:Act},(∀ j∈R,Z9 ops j≠some s)->(Zaf ops listed vs R a).tmps.getD s undef=a.tmps.getD s undef
 |[],a,_=>rfl
 |i::R,a,h=>by
  unfold Zaf;rw[ZdV fun j hj=>h j (List.mem_cons_of_mem _ hj)];split
  ·exact ZmD (h i (List.mem_cons_self))
  ·rfl
theorem ZlU {listed:Array Bool} {vs:Nat->Value} {j d:Nat}: ∀ {R:List Nat} {a:Act},ZeC ops a.tmps.size R=true->j∈R->listed.getD j false=true->Z9 ops j=some d->(Zaf ops listed vs R a).tmps.getD d undef=vs j
 |[],a,_,hj,_,_=>by cases hj
 |i::R,a,hok,hj,hf,hd=>by
  have hok':=hok;simp only[ZeC,Bool.and_eq_true] at hok;obtain ⟨h1,h2,h3⟩:=hok;have hsz:(if listed.getD i false=true then a.put (Z9 ops i) (vs i) else a).tmps.size=a.tmps.size:=by split<;>simp[Zrb]
  by_cases hjR:j∈R
  ·unfold Zaf;exact ZlU (by rw[hsz];exact h3) hjR hf hd
  ·have e:j=i:=(by rcases List.mem_cons.1 hj with h|h;exact h;exact (hjR h).elim);subst e;cases ho:ops[j]? with
   |none=>rw[ho] at h1;simp at h1
   |some o=>rw[ho] at h1;have hod:o.dst=some d:=(by unfold Z9 at hd;rw[ho] at hd;simpa using hd);simp[hod] at h1;unfold Zaf;rw[if_pos hf,ZdV fun k hk=>h1.2.2 k hk,hd];simp[Act.put,h1.2.1]
end
theorem Zlb {ops:Array Oper} {sz:Nat}: ∀ {R:List Nat},ZeC ops sz R=true-> ∀ i∈R, ∃ o d,ops[i]? =some o/\o.guard=none/\o.dst=some d/\d<sz
 |[],_,i,hi=>by cases hi
 |k::R,hok,i,hi=>by
  simp only[ZeC,Bool.and_eq_true] at hok;obtain ⟨h1,h2,h3⟩:=hok;rcases List.mem_cons.1 hi with e|e
  ·subst e;cases ho:ops[i]? with
   |none=>rw[ho] at h1;simp at h1
   |some o=>
    rw[ho] at h1;cases hd:o.dst with
    |none=>simp[hd] at h1
    |some d=>simp[hd] at h1;exact ⟨o,d,rfl,h1.1,hd,h1.2.1⟩
  ·exact Zlb h3 i e
section
variable {P:Program} {ops:Array Oper} {S:World->Prop} {T:Nat->Prop} {Q:Exit->Act->World->Prop}
theorem ZgO {R F:List Nat} {target:Array Bool} {a0:Act} {n2:Nat} (hsel:Region.noSelect ops=true) (hQ: ∀ c (a:Act) d v w,Q (.panic c) (a.put (some d) v) w->Q (.panic c) a w)
  (Post:Nat->Value->World->Prop) (ob:Nat->Value->Option Nat) (hst: ∀ i v w w',Keep T w w'->Post i v w->Post i v w') (hlt: ∀ i v w,Post i v w-> ∀ g,ob i v=some g->g<w.heap.size) (hob: ∀ i∈F, ∀ v,ob i v=none)
  (hok:ZeC ops a0.tmps.size (R++F)=true) {w0:World}
  (step : ∀ i ∈ R, ∀ o, ops[i]? = some o → ∀ (a : Act) (w : World), Keep T w0 w → S w →
   (∀ j∈R++F,(∃ e∈o.after,Region.binds .any e=true/\e.on=j)-> ∀ d,Z9 ops j=some d->Post j (a.tmps.getD d undef) w)->
   (∀ s,(∀ j∈R++F,Z9 ops j≠some s)->a.tmps.getD s undef=a0.tmps.getD s undef)->
   ∀ K:Act->World->Prop,(∀ v w',Keep T w w'->S w'->Post i v w'->(∀ g,ob i v=some g->w.heap.size<=g)->K (a.put o.dst v) w')->o.wp P a w K Q)
  (stepF : ∀ i ∈ F, ∀ o, ops[i]? = some o → ∀ (a : Act) (w : World), Keep T w0 w → S w →
   (∀ j∈R++F,(∃ e∈o.after,Region.binds .any e=true/\e.on=j)-> ∀ d,Z9 ops j=some d->Post j (a.tmps.getD d undef) w)->
   (∀ s,(∀ j∈R++F,Z9 ops j≠some s)->a.tmps.getD s undef=a0.tmps.getD s undef)->
   ∃ v,(∀ w',S w'->(execOp a.eval o).run P w'= .ok (.value v) w')/\Post i v w)
  (fin: ∀ (vs:Nat->Value) (w:World),Keep T w0 w->S w->(∀ i∈R++F,Post i (vs i) w)->(∀ i∈R++F, ∀ j∈R++F,i≠j-> ∀ g,ob i (vs i)=some g->ob j (vs j)≠some g)->wpAnyH P .any ops Q S n2 target (ZhE ops vs (R++F) a0) w):
  ∀ (n:Nat) (listed:Array Bool) (vs:Nat->Value) (w:World),Keep T w0 w->S w->listed.size=ops.size->ZiL ops R F target n listed=true->(∀ i∈R++F,listed.getD i false=true->Post i (vs i) w)->
   (∀ i∈R++F,listed.getD i false=true-> ∀ j∈R++F,listed.getD j false=true->i≠j-> ∀ g,ob i (vs i)=some g->ob j (vs j)≠some g)->
   wpAnyH P .any ops Q S (n+n2) listed (Zaf ops listed vs (R++F) a0) w
 |0,listed,vs,w,hT,hS,_,hB,hI,hD=>by
  simp only[ZiL,Bool.and_eq_true,beq_iff_eq] at hB;obtain ⟨hall,rfl⟩:=hB;have hall': ∀ j∈R++F,listed.getD j false=true:=fun j hj=>by simpa using List.all_eq_true.1 hall j hj
  rw[Zkm hall',Nat.zero_add];exact fin vs w hT hS (fun i hi=>hI i hi (hall' i hi)) fun i hi j hj=>hD i hi (hall' i hi) j hj (hall' j hj)
 |n+1,listed,vs,w,hT,hS,hsz,hB,hI,hD=>by
  have next: ∀ (i:Nat) (v:Value) (w':World),i∈R++F->i<listed.size->listed.getD i false=false->Keep T w w'->S w'->Post i v w'->(∀ g,ob i v=some g->w.heap.size<=g)->ZiL ops R F target n (listed.setIfInBounds i true)=true->
    wpAnyH P .any ops Q S (n+n2) (listed.setIfInBounds i true) ((Zaf ops listed vs (R++F) a0).put (Z9 ops i) v) w':=by
   intro i v w' hiR hil hf hT' hS' hP hfr hrest;rw[←Zkw hok hiR hil hf];refine ZgO hsel hQ Post ob hst hlt hob hok step stepF fin n _ _ w' (hT.trans hT') hS' (by simpa using hsz) hrest (fun j hj hl=> ?_) fun j hj hl k hk hl2 hne2 g hg1 hg2=> ?_
   ·by_cases e:j=i
    ·subst e;simpa using hP
    ·rw[getD_set_ne false (Ne.symm e)] at hl;simp only[e,if_false];exact hst j _ _ _ hT' (hI j hj hl)
   ·by_cases e:j=i
    ·subst e;have e2:k≠j:=fun e=>hne2 e.symm;rw[getD_set_ne false (Ne.symm e2)] at hl2;simp only[if_true] at hg1;simp only[e2,if_false] at hg2;have h1:=hfr g hg1;have h2:=hlt k _ _ (hI k hk hl2) g hg2;omega
    ·rw[getD_set_ne false (Ne.symm e)] at hl;simp only[e,if_false] at hg1;by_cases e2:k=i
     ·subst e2;simp only[if_true] at hg2;have h1:=hfr g hg2;have h2:=hlt j _ _ (hI j hj hl) g hg1;omega
     ·rw[getD_set_ne false (Ne.symm e2)] at hl2;simp only[e2,if_false] at hg2;exact hD j hj hl k hk hl2 hne2 g hg1 hg2
  have deps: ∀ (i:Nat) (o:Oper),ops[i]? =some o->i∈Region.ready .any ops listed-> ∀ j∈R++F,(∃ e∈o.after,Region.binds .any e=true/\e.on=j)-> ∀ d,Z9 ops j=some d->Post j ((Zaf ops listed vs (R++F) a0).tmps.getD d undef) w:=by intro i o ho hi j hj ⟨e,he,hb,hej⟩ dj hdj;obtain ⟨hun,o',ho',hall'⟩:=mem_ready.1 hi;obtain rfl:o'=o:=Option.some.inj (ho'.symm.trans ho);have hl:=hall' e he hb;rw[hej] at hl;rw[ZlU hok hj hl hdj];exact hI j hj hl
  have base: ∀ (i:Nat),i∈R++F->i∈Region.ready .any ops listed-> ∃ o,ops[i]? =some o/\o.guard=none/\Z9 ops i=o.dst/\(∃ d,o.dst=some d)/\i<listed.size/\listed.getD i false=false:=by intro i hiR hi;obtain ⟨o,d,ho,hg,hd,hlt'⟩:=Zlb hok i hiR;obtain ⟨hun,_⟩:=mem_ready.1 hi;have hil:i<listed.size:=(by rw[hsz];exact (Array.getElem?_eq_some_iff.1 ho).1);exact ⟨o,ho,hg,by unfold Z9;rw[ho];rfl,⟨d,hd⟩,hil,by simpa [hil] using hun⟩
  simp only[ZiL] at hB;rw[Nat.add_right_comm];split at hB
  ·rename_i f hfind;simp only[Bool.and_eq_true] at hB;obtain ⟨hfree,hrest⟩:=hB;have hfr:=List.find?_some hfind;have hfF:f∈F:=List.mem_of_find?_eq_some hfind;have hfR:f∈R++F:=List.mem_append_right _ hfF;have hready:f∈Region.ready .any ops listed:=(by simpa using hfr);obtain ⟨o,ho,hg,hdst,⟨d,hd⟩,hil,hf⟩:=base f hfR hready;obtain ⟨v,hv,hP⟩:=stepF f hfF o ho _ w hT hS (deps f o ho hready) (fun s hs=>ZdV hs);refine wpAnyH_take (v:=v) ho hsel hfree hfr (fun c a w hh=>by rw[hd] at hh;exact hQ c a d v w hh) (.inl ⟨by simp[Region.wanted,hg],hv⟩) hS ?_;rw[←hdst];exact next f v w hfR hil hf (Keep.refl _ _) hS hP (fun g hg=>by rw[hob f hfF] at hg;cases hg) hrest
  ·simp only[Bool.and_eq_true,Bool.not_eq_true',List.all_eq_true] at hB;obtain ⟨hne,hall⟩:=hB;refine wpAnyH_all rfl (by intro e;rw[e] at hne;simp at hne) fun i hi=> ?_;obtain ⟨hR,hrest⟩:=hall i hi;have hiR0:i∈R:=(by simpa using hR);have hiR:i∈R++F:=List.mem_append_left _ hiR0;obtain ⟨o,ho,hg,hdst,⟨d,hd⟩,hil,hf⟩:=base i hiR hi;unfold wpOp;simp only[ho];rw[if_pos (by simp[Region.wanted,hg])];refine .inl (step i hiR0 o ho _ w hT hS (deps i o ho hi) (fun s hs=>ZdV hs) _ fun v w' hT' hS' hP hfr=>⟨hS', ?_⟩);rw[←hdst];exact next i v w' hiR hil hf hT' hS' hP hfr hrest
end
structure Shut (p:Prop):Prop where
 out:p
def Zre (P:Program) (ops:Array Oper) (l:List Oper) (S:World->Prop) (T:Nat->Prop) (Q:Exit->Act->World->Prop) (R F:List Nat) (sg:List (List Nat×Option Nat)) (a0:Act) (w0:World):Prop:=
 ZeC ops a0.tmps.size (R++F)=true/\ ∃ (Post:Nat->Value->World->Prop) (ob:Nat->Value->Option Nat),(∀ i v w w',Keep T w w'->Post i v w->Post i v w')/\(∀ i v w,Post i v w-> ∀ g,ob i v=some g->g<w.heap.size)/\(∀ i∈F, ∀ v,ob i v=none)/\
  (∀ i ∈ R, ∀ o, ops[i]? = some o → ∀ (a : Act) (w : World), Keep T w0 w → S w →
   (∀ j∈R++F,(∃ e∈o.after,Region.binds .any e=true/\e.on=j)-> ∀ d,Z9 ops j=some d->Post j (a.tmps.getD d undef) w)->
   (∀ s,(∀ j∈R++F,Z9 ops j≠some s)->a.tmps.getD s undef=a0.tmps.getD s undef)->
   ∀ K:Act->World->Prop,(∀ v w',Keep T w w'->S w'->Post i v w'->(∀ g,ob i v=some g->w.heap.size<=g)->K (a.put o.dst v) w')->o.wp P a w K Q)/\
  (∀ i ∈ F, ∀ o, ops[i]? = some o → ∀ (a : Act) (w : World), Keep T w0 w → S w →
   (∀ j∈R++F,(∃ e∈o.after,Region.binds .any e=true/\e.on=j)-> ∀ d,Z9 ops j=some d->Post j (a.tmps.getD d undef) w)->
   (∀ s,(∀ j∈R++F,Z9 ops j≠some s)->a.tmps.getD s undef=a0.tmps.getD s undef)->
   ∃ v,(∀ w',S w'->(execOp a.eval o).run P w'= .ok (.value v) w')/\Post i v w)/\
  ∀ (vs:Nat->Value) (w:World),Keep T w0 w->S w->(∀ i∈R++F,Post i (vs i) w)->(∀ i∈R++F, ∀ j∈R++F,i≠j-> ∀ g,ob i (vs i)=some g->ob j (vs j)≠some g)->Shut (Zdk P ops l S Q sg (ZhE ops vs (R++F) a0) w)
def Zb3 (n:Nat) (fs:List Nat):Array Bool:=fs.foldl (fun l i=>l.setIfInBounds i true) (Array.replicate n false)
theorem ZfG {ops:Array Oper}: ∀ {fs:List Nat} {listed l':Array Bool},Zaw ops fs listed=some l'->l'=fs.foldl (fun l i=>l.setIfInBounds i true) listed
 |[],_,_,h=>by simp[Zaw] at h;simp[h]
 |i::fs,listed,l',h=>by
  simp only[Zaw] at h;split at h
  ·simpa using ZfG h
  ·cases h
theorem Zam {T:Nat->Prop} (fs R F:List Nat) (sg:List (List Nat×Option Nat)) (hm:P.follows .mixedOrders=true)
  (hB : (Region.noSelect l.toArray && ((fs.length + ((R ++ F).length + Zew sg) == l.length && (fs.all (· < l.length) && Zcx l.length sg)) && ((Zaw l.toArray fs (Array.replicate l.length false)).isSome &&
   ((R++F).all (fun i=> !(Zb3 l.length fs).getD i false)&&(ZiL l.toArray R F (Zb3 l.length (fs++(R++F))) (R++F).length (Zb3 l.length fs)&&Zcz l.toArray sg (Zb3 l.length (fs++(R++F))))))))=true)
  (hQ: ∀ c (a:Act) d v w,Q (.panic c) (a.put (some d) v) w->Q (.panic c) a w) (hS:S w.drew) (h:wpQuiet P l.toArray S (fun a'=>Zre P l.toArray l S T Q R F sg a' w.drew) (Zbx l fs) a):(Code.region id l.toArray true).wp P Q a w:=by
 simp only[Bool.and_eq_true,beq_iff_eq] at hB;obtain ⟨hsel,⟨hn,hin1,hin2⟩,hF,hR0,hp,hs⟩:=hB;obtain ⟨l1,hl1⟩:=Option.isSome_iff_exists.1 hF;have e1:=ZfG hl1;have hsz:(Zb3 l.length fs).size=l.length:=by
  unfold Zb3;have: ∀ (fs:List Nat) (q:Array Bool),(fs.foldl (fun l i=>l.setIfInBounds i true) q).size=q.size:=by
   intro fs;induction fs with
   |nil=>intro q;rfl
   |cons i fs ih=>intro q;simp[ih]
  rw[this];simp
 refine wp_region_held (S:=S) hm ?_
 have:=ZcI (P:=P) (ops:=l.toArray) (S:=S) (Q:=Q) hsel hQ hS ((R++F).length+Zew sg) (fun a'=>Zre P l.toArray l S T Q R F sg a' w.drew) fs (Zbx l fs) (Array.replicate l.length false) l1 a (Zbp hin1) hl1 h
  (fun a0 ⟨hok, Post, ob, hst, hlt, hob, step, stepF, fin⟩ => by
   have hr0: ∀ j∈R++F,(Zb3 l.length fs).getD j false=false:=fun j hj=>(by simpa using List.all_eq_true.1 hR0 j hj);have hl1':l1=Zb3 l.length fs:=e1
   have key:=ZgO (P:=P) (ops:=l.toArray) (S:=S) (T:=T) (Q:=Q) (R:=R) (F:=F) (target:=Zb3 l.length (fs++(R++F))) (a0:=a0) (n2:=Zew sg) hsel hQ Post ob hst hlt hob hok step stepF
    (fun vs w' hT hS' hI hD=>ZbG l rfl hsel hQ sg _ _ w' hS' hin2 hs (fin vs w' hT hS' hI hD).out) (R++F).length (Zb3 l.length fs) (fun _=>undef) w.drew (Keep.refl _ _) hS (by simpa using hsz) hp (fun i hi hl=>by rw[hr0 i hi] at hl;cases hl) (fun i hi hl=>by rw[hr0 i hi] at hl;cases hl)
   rw[Zjm hr0] at key;rw[hl1'];exact key)
 rw[hn] at this;simpa using this
def Zc3:List (Option Tmp×Value)->Act->Act
 |[],a=>a
 |(d,v)::r,a=>Zc3 r (a.put d v)
section
variable {P:Program} {o:Oper} {a:Act} {w:World} {K:Act->World->Prop} {Q:Exit->Act->World->Prop}
theorem Zim {f:FuncId} {args:Array Operand} {ts:Array TypeId} {fn:Func} {c:Code} (ho:o.op= .call {callee:= .value (.func f),args:=args,argTypes:=ts}) (hf:P.funcs[f]? =some fn) (hname:(fn.name== "runtime.NumGoroutine")=false) (hb:fn.body=some c)
  (h:Calls P f (args.map a.eval) w fun e w'=> ∃ v,e= .returned v/\K (a.put o.dst v) w'):o.wp P a w K Q:=by
 have h1:fn.name≠ "runtime.NumGoroutine" :=by simpa using hname
 unfold Oper.wp execOp;simp only[ho,resolve,Act.eval,Deferred.ofValue,invoke,Sem.run_bind,Sem.run_pure,Result.andThen_ok];have he:(callFunc f (args.map a.eval)).run P w= .ok (.enter f (args.map a.eval)) w:=by simp[callFunc,hf,h1,hb,mark]
 simp only[Array.empty_append,Array.append_empty];rw[he];exact Calls.mono h fun e w' ⟨v,hv,hk⟩=>by subst hv;exact hk
theorem ZkC {v:Value} {w':World} (hr:(execOp a.eval o).run P w= .ok (.value v) w') (h:K (a.put o.dst v) w'):o.wp P a w K Q:=by
 unfold Oper.wp;rw[hr];exact h
theorem Zfr {f:FuncId} {x:Operand} {v:Value} {ts:Array TypeId} {fn:Func} {c:Code} (ho:o.op= .call {callee:= .value (.func f),args:= #[x],argTypes:=ts}) (hf:P.funcs[f]? =some fn) (hname:(fn.name== "runtime.NumGoroutine")=false) (hb:fn.body=some c)
  (hx:a.eval x=v) (h:Calls P f #[v] w fun e w'=> ∃ v,e= .returned v/\K (a.put o.dst v) w'):o.wp P a w K Q:=by
 subst hx;exact Zim ho hf hname hb (by simpa using h)
theorem Zba {f:FuncId} {x y:Operand} {v u:Value} {ts:Array TypeId} {fn:Func} {c:Code} (ho:o.op= .call {callee:= .value (.func f),args:= #[x,y],argTypes:=ts}) (hf:P.funcs[f]? =some fn) (hname:(fn.name== "runtime.NumGoroutine")=false) (hb:fn.body=some c)
  (hx:a.eval x=v) (hy:a.eval y=u) (h:Calls P f #[v,u] w fun e w'=> ∃ v,e= .returned v/\K (a.put o.dst v) w'):o.wp P a w K Q:=by
 subst hx;subst hy;exact Zim ho hf hname hb (by simpa using h)
theorem Zbn {t:TypeId} {z:Value} (ho:o.op= .alloc t) (hz:(zeroValue t).run P w= .ok z w) (h:K (a.put o.dst (.pointer (some ⟨w.heap.size,0,none⟩))) (w.alloc (.cells z.cells t))):o.wp P a w K Q:=by
 refine ZkC (v:= .pointer (some ⟨w.heap.size,0,none⟩)) (w':=w.alloc (.cells z.cells t)) ?_ h;unfold execOp;simp only[ho,Instr.alloc,Sem.run_bind,hz,Result.andThen_ok];rfl
theorem ZP {i:Nat} {x:Operand} {vs:Array Value} {v:Value} (ho:o.op= .extract x i) (hx:a.eval x= .tuple vs) (hv:vs[i]? =some v) (w':World):(execOp a.eval o).run P w'= .ok (.value v) w':=by
 unfold execOp;simp only[ho,hx,Instr.extract,hv,Sem.run_bind,Sem.run_pure,Result.andThen_ok]
end
theorem ZbK {P:Program} {ops:Array Oper} {l:List Oper} {S:World->Prop} {Q:Exit->Act->World->Prop} {sg:List (List Nat×Option Nat)} {vs:Nat->Value} {w:World}:
  ∀ {L:List Nat} {ds:List (Option Tmp)} {a0:Act},L.map (Z9 ops)=ds->Shut (Zdk P ops l S Q sg (Zc3 (ds.zip (L.map vs)) a0) w)->Shut (Zdk P ops l S Q sg (ZhE ops vs L a0) w)
 |[],ds,a0,hd,h=>by subst hd;exact h
 |i::L,ds,a0,hd,h=>by subst hd;exact ZbK (L:=L) rfl h
section
variable {P:Program} {o:Oper} {a:Act} {w:World} {K:Act->World->Prop} {Q:Exit->Act->World->Prop}
theorem Zn9 {t:TypeId} (ho:o.op= .buildSlice t 0 #[]) {e:TypeId} {z:Value} {sz bytes:Nat} (hT:SlT P t e z sz bytes)
  (h:K (a.put o.dst (.slice (some ⟨w.heap.size,0,none⟩) 0 0)) (w.alloc (.cells #[] e))):o.wp P a w K Q:=by
 obtain ⟨ht,⟨i,hi,hz,hsz,hby⟩,hzs⟩:=hT;have hr:(Instr.buildSlice t 0 #[]).run P w= .ok (.slice (some ⟨w.heap.size,0,none⟩) 0 0) (w.alloc (.cells #[] e)):=by simp[Instr.buildSlice,run_underlying ht,sizeOf,typeInfo,hi,newRow,Instr.fill,show Array.range 0= #[] from by simp[Array.range]]
 unfold Oper.wp execOp;simp only[ho,List.map_toArray,List.map_nil,Sem.run_bind,hr,Result.andThen_ok];exact h
end
theorem Zlp {K:Act->World->Prop} {s x:Operand} {t:TypeId} (ho:o.op= .call {callee:= .builtin .append,args:= #[s,x],argTypes:= #[t,t]}) {e:TypeId} {z:Value} {sz bytes:Nat} (hT:SlT P t e z sz bytes)
  {S:Nat->Prop} {p:Option Addr} {n cap:Nat} (hs:a.eval s= .slice p n cap) (hown:Own w e sz p n cap cs) {m c:Nat} {news:List Value} (hx:a.eval x= .slice b m c) (hsrc:Row w S sz b m c news) (h1: ∀ u∈news,u.oneCell'=true)
  (hbytes:(n+m)*bytes<=140737488355328) (h63:n+m<=maxLen)
  (h: ∀ a' cap' w',Apped w w' e sz p a' (n+m) cap' (cs++news)->K (a.put o.dst (.slice a' (n+m) cap')) w'):o.wp P a w K Q:=by
 obtain ⟨ht,⟨i,hi,hz,hsz,hby⟩,hzs⟩:=hT;obtain ⟨a',cap',w',hr,hap⟩:=ZjP (P:=P) w t o.type e i z sz bytes ht hi hz hsz hby hzs hown hsrc h1 hbytes h63;unfold Oper.wp execOp;simp only[ho,resolve,invoke,builtin,Sem.run_bind,Sem.run_pure,Result.andThen_ok,List.map_toArray,List.map_cons,List.map_nil,hs,hx,hr];exact h _ _ _ hap
theorem Own.ne_own {e1 e2:TypeId} {sz1 sz2:Nat} {a:Option Addr} {n1 n2 c1 c2:Nat} {ds:List Value} (h1:Own w e1 sz1 a n1 c1 cs) (h2:Own w e2 sz2 b n2 c2 ds) (hne:e1≠e2): ∀ g,blk a=some g->blk b≠some g:=fun g ha hb=>by
 cases a with
 |none=>simp at ha
 |some p=>
  cases b with
  |none=>simp at hb
  |some q=>simp at ha hb;obtain ⟨_,cur,k1,_⟩:=h1.block p rfl;obtain ⟨_,cur',k2,_⟩:=h2.block q rfl;rw[ha] at k1;rw[hb] at k2;have:=k1.symm.trans k2;simp only[Option.some.injEq,Obj.cells.injEq] at this;exact hne this.2.1
def ZeT (P:Program) (md:Region.Mode) (ops:Array Oper) (Q:Exit->Act->World->Prop) (S:World->Prop) (last:Nat):Nat->Array Bool->Act->World->Prop
 |0,listed,a,w=>Region.ready md ops listed=[]/\Q .normal a w
 |fuel+1,listed,a,w=>
  (Region.ready md ops listed=[]->Q .normal a w)/\
  ∀ i∈Region.ready md ops listed,wpOp P ops Q i (fun a' w'=>(i≠last->S w')/\ZeT P md ops Q S last fuel (listed.setIfInBounds i true) a' w') a w
def Shutd (md:Region.Mode) (ops:Array Oper) (listed:Array Bool):Prop:= ∀ (j:Nat) (o:Oper),ops[j]? =some o->listed.getD j false=true-> ∀ e∈o.after,Region.binds md e=true->listed.getD e.on false=true
def sinkB (md:Region.Mode) (ops:Array Oper) (last:Nat):Bool:=
 (List.range ops.size).all fun i => i == last || (List.range ops.size).any fun k => decide (i < k) && (match ops[k]? with
  |some o=>o.after.any (fun e=>Region.binds md e&&e.on==i)
  |none=>false)
section
variable {P:Program} {md:Region.Mode} {ops:Array Oper} {S:World->Prop} {Q:Exit->Act->World->Prop} {last:Nat}
theorem Zjn: ∀ (fuel:Nat) (listed:Array Bool) (a:Act) (w:World),ZeT P md ops Q S last fuel listed a w->wpAny P md ops Q fuel listed a w
 |0,_,_,_,h=>h
 |fuel+1,_,_,_,h=>⟨h.1,fun i hi=>wpOp_mono (fun a' w' h'=>Zjn fuel _ a' w' h'.2) (h.2 i hi)⟩
theorem Shutd.add {listed:Array Bool} {i:Nat} (h:Shutd md ops listed) (hi:i∈Region.ready md ops listed):Shutd md ops (listed.setIfInBounds i true):=fun j o ho hl e he hb=>by
 by_cases hji:i=j
 ·subst hji;obtain ⟨_,o',ho',hall⟩:=mem_ready.1 hi;obtain rfl:o=o':=by rw[ho] at ho';exact Option.some.inj ho'
  exact getD_set_true (hall e he hb)
 ·rw[getD_set_ne false hji] at hl;exact getD_set_true (h j o ho hl e he hb)
theorem Zln (hs:sinkB md ops last=true) {listed:Array Bool} (hc:Shutd md ops listed) (hl:last∈Region.ready md ops listed): ∀ (n i:Nat),ops.size-i<=n->i<ops.size->i≠last->listed.getD i false=true
 |0,i,hn,hi,_=>by omega
 |n+1,i,hn,hi,hne=>by
  have hs':=hs;unfold sinkB at hs';rw[List.all_eq_true] at hs';have h1:=hs' i (List.mem_range.2 hi);rw[Bool.or_eq_true,beq_iff_eq] at h1;have h2:=h1.resolve_left hne;rw[List.any_eq_true] at h2;obtain ⟨k,hk,h3⟩:=h2;have hk:=List.mem_range.1 hk;rw[Bool.and_eq_true,decide_eq_true_eq] at h3;obtain ⟨hik,h4⟩:=h3;cases ho:ops[k]? with
  |none=>rw[ho] at h4;cases h4
  |some o=>
   rw[ho] at h4;obtain ⟨e,he,hb⟩:=Array.any_eq_true'.1 h4;rw[Bool.and_eq_true,beq_iff_eq] at hb;by_cases hkl:k=last
   ·subst hkl;obtain ⟨_,o',ho',hall⟩:=mem_ready.1 hl;obtain rfl:o=o':=(by rw[ho] at ho';exact Option.some.inj ho');have:=hall e he hb.1
    rwa [hb.2] at this
   ·have:=hc k o ho (Zln hs hc hl n k (by omega) hk hkl) e he hb.1
    rwa [hb.2] at this
theorem ZhC (hsk:sinkB md ops last=true) {i:Nat} {oi:Oper} {v:Value} (hi:ops[i]? =some oi) (hil:i≠last) (hsel: ∀ (j:Nat) (o:Oper) cs b,ops[j]? =some o->o.op≠ .select cs b)
  (hQ: ∀ c a w,Q (.panic c) (a.put oi.dst v) w->Q (.panic c) a w):
  ∀ (fuel:Nat) (listed:Array Bool) (a:Act) (w:World),Shutd md ops listed->
   (∀ j oj,ops[j]? =some oj->j≠i->listed.getD j true=false->(∀ e∈oj.after,Region.binds md e=true->e.on≠i)->oi.apart ops oj=true)->
   i∈Region.ready md ops listed->YieldsIf P ops S oi v a->S w->
   ZeT P md ops Q S last fuel (listed.setIfInBounds i true) (a.put oi.dst v) w->ZeT P md ops Q S last (fuel+1) listed a w:=by
 intro fuel;induction fuel with
 |zero=>
  intro listed a w _ _ hr hy hS H;refine ⟨fun h=>(by rw[h] at hr;cases hr),fun j hj=> ?_⟩;by_cases hji:j=i
  ·subst hji;exact hy.wpOp hi hS ⟨fun _=>hS,H⟩
  ·have:=ready_mono hj hji;rw[H.1] at this;cases this
 |succ fuel ih=>
  intro listed a w hcl hfree hr hy hS H;refine ⟨fun h=>(by rw[h] at hr;cases hr),fun j hj=> ?_⟩;by_cases hji:j=i
  ·subst hji;exact hy.wpOp hi hS ⟨fun _=>hS,H⟩
  ·have hjl:j≠last:=fun e=>by
    subst e;have h1:=Zln hsk hcl hj _ i (Nat.le_refl _) (Array.getElem?_eq_some_iff.1 hi).1 hil;have h0:=(mem_ready.1 hr).1;rcases Nat.lt_or_ge i listed.size with h'|h'
    ·simp[h'] at h0 h1;rw[h0] at h1;cases h1
    ·simp[Array.getElem?_eq_none h'] at h1
   have h1:=H.2 j (ready_mono hj hji);obtain ⟨hjun,oj,hoj,hall⟩:=mem_ready.1 hj;have hnot: ∀ e∈oj.after,Region.binds md e=true->e.on≠i:=fun e he hb heq=>by
    have h1:=hall e he hb;have h0:=(mem_ready.1 hr).1;rw[heq] at h1;rcases Nat.lt_or_ge i listed.size with h'|h'
    ·simp[h'] at h0 h1;rw[h0] at h1;cases h1
    ·simp[Array.getElem?_eq_none h'] at h1
   have h2:=wpOp_putIf hoj (hfree j oj hoj hji hjun hnot) (fun cs b=>hsel i oi cs b hi) (fun cs b=>hsel j oj cs b hoj) hQ hy h1
   have hfree': ∀ k ok,ops[k]? =some ok->k≠i->(listed.setIfInBounds j true).getD k true=false->
     (∀ e∈ok.after,Region.binds md e=true->e.on≠i)->oi.apart ops ok=true:=fun k ok hk hki hun hno=>by
    refine hfree k ok hk hki ?_ hno;by_cases hjk:j=k
    ·subst hjk;exact hjun
    ·rw[getD_set_ne true hjk] at hun;exact hun
   refine wpOp_mono (fun a' w' h3=>⟨h3.2.1,ih (listed.setIfInBounds j true) a' w' (hcl.add hj) hfree' (ready_mono hr (Ne.symm hji)) h3.1 (h3.2.1 hjl) ?_⟩) h2;rw[Array.setIfInBounds_comm _ _ hji];exact h3.2.2
end
def ZeQ (P:Program) (ops:Array Oper) (l:List Oper) (S:World->Prop) (last:Nat) (Q:Exit->Act->World->Prop):List (List Nat×Option Nat)->Act->World->Prop
 |[],a,w=>Q .normal a w
 |(fs,none)::r,a,w=>wpQuiet P ops S (fun a'=>ZeQ P ops l S last Q r a' w) (Zbx l fs) a
 | (fs, some i) :: r, a, w => wpQuiet P ops S (fun a' => match l[i]? with
   |some o=>if Region.wanted o (yielded ops a'.tmps) then o.wp P a' w (fun a2 w2=>(i≠last->S w2)/\ZeQ P ops l S last Q r a2 w2) Q else S w/\ZeQ P ops l S last Q r (a'.put o.dst undef) w
   |none=>False) (Zbx l fs) a
def ZhX (last:Nat):List (List Nat×Option Nat)->Bool
 |[]=>true
 |(fs,none)::r=>fs.all (· !=last)&&ZhX last r
 |(fs,some i)::r=>fs.all (· !=last)&&((i !=last||r.isEmpty)&&ZhX last r)
section
variable {P:Program} {ops:Array Oper} {S:World->Prop} {Q:Exit->Act->World->Prop} {last:Nat}
theorem ZdG (hsk:sinkB .any ops last=true) (hsel:Region.noSelect ops=true) (hQ: ∀ c (a:Act) d v w,Q (.panic c) (a.put (some d) v) w->Q (.panic c) a w) {w:World} (hS:S w) (n2:Nat) (K:Act->Prop):
  ∀ (p:List Nat) (l:List Oper) (listed listed':Array Bool) (a:Act),p.map (ops[·]?)=l.map some->(p.all (· !=last))=true->Shutd .any ops listed->Zaw ops p listed=some listed'->wpQuiet P ops S K l a->(∀ a',Shutd .any ops listed'->K a'->ZeT P .any ops Q S last n2 listed' a' w)->ZeT P .any ops Q S last (p.length+n2) listed a w
 |[],[],listed,listed',a,_,_,hc,hF,h,hK=>by simp only[Zaw,Option.some.injEq] at hF;subst hF;simpa using hK a hc h
 |[],_::_,_,_,_,hl,_,_,_,_,_=>by simp at hl
 |_::_,[],_,_,_,hl,_,_,_,_,_=>by simp at hl
 |i::p,o::l,listed,listed',a,hl,hal,hc0,hF,h,hK=>by
  simp only[List.map_cons,List.cons.injEq] at hl;simp only[List.all_cons,Bool.and_eq_true,bne_iff_ne] at hal;simp only[Zaw] at hF;split at hF
  ·rename_i hc;simp only[Bool.and_eq_true,hl.1,Option.map_some,Option.getD_some] at hc;obtain ⟨⟨hr,hf⟩,hp,hd⟩:=hc;obtain ⟨d,hd⟩:=Option.isSome_iff_exists.1 hd;have hr':i∈Region.ready .any ops listed:=(by simpa using hr);have ih:=fun a' h'=>ZdG hsk hsel hQ hS n2 K p l _ listed' a' hl.2 hal.2 (hc0.add hr') hF h' hK;rw[List.length_cons,Nat.add_right_comm];unfold wpQuiet at h;by_cases hw:Region.wanted o (yielded ops a.tmps)=true
   ·rw[if_pos hw] at h;obtain ⟨v,hv,hK'⟩:=h;refine ZhC (v:=v) hsk hl.1 hal.1 (Region.noSelect_spec hsel) (fun c a w hh=>by rw[hd] at hh;exact hQ c a d v w hh) _ listed a w hc0 (Region.free_spec hl.1 hf) hr' (.inl ⟨hw,fun w' hw'=> ?_⟩) hS (ih _ hK');have:=hv w' hw';unfold Oper.quietAt at this;cases hrun:(execOp a.eval o).run P w' with
    |halt x u=>rw[hrun] at this;simp[Oper.quietUpon] at this
    |ok r u=>obtain ⟨v',rfl⟩:=Op.plain_run hp hrun;rw[hrun] at this;simp only[Oper.quietUpon] at this;rw[this.1,this.2]
   ·rw[if_neg hw] at h;exact ZhC (v:=undef) hsk hl.1 hal.1 (Region.noSelect_spec hsel) (fun c a w hh=>by rw[hd] at hh;exact hQ c a d undef w hh) _ listed a w hc0 (Region.free_spec hl.1 hf) hr' (.inr ⟨by simpa using hw,rfl⟩) hS (ih _ h)
  ·cases hF
theorem ZcH (l:List Oper) (hops:ops=l.toArray) (hsk:sinkB .any ops last=true) (hsel:Region.noSelect ops=true) (hQ: ∀ c (a:Act) d v w,Q (.panic c) (a.put (some d) v) w->Q (.panic c) a w):
  ∀ (sg:List (List Nat×Option Nat)) (listed:Array Bool) (a:Act) (w:World),(sg≠[]->S w)->Shutd .any ops listed->ZhX last sg=true->Zcx l.length sg=true->Zcz ops sg listed=true->ZeQ P ops l S last Q sg a w->ZeT P .any ops Q S last (Zew sg) listed a w
 |[],listed,a,w,hS,_,_,hin,hB,h=>⟨by simpa [Zcz] using hB,h⟩
 |(fs,none)::r,listed,a,w,hS,hc,hL,hin,hB,h=>by
  simp only[Zcz] at hB;simp only[Zcx,Bool.and_eq_true] at hin;simp only[ZhX,Bool.and_eq_true] at hL;split at hB
  ·rename_i listed' hF;exact ZdG hsk hsel hQ (hS (by simp)) _ _ fs (Zbx l fs) listed listed' a (by rw[hops];exact Zbp hin.1) hL.1 hc hF h fun a' hc' h'=>ZcH l hops hsk hsel hQ r listed' a' w (fun _=>hS (by simp)) hc' hL.2 hin.2 hB h'
  ·cases hB
 |(fs,some i)::r,listed,a,w,hS,hc,hL,hin,hB,h=>by
  simp only[Zcz] at hB;simp only[Zcx,Bool.and_eq_true,decide_eq_true_eq] at hin;simp only[ZhX,Bool.and_eq_true,Bool.or_eq_true,bne_iff_ne] at hL;split at hB
  ·rename_i listed' hF;simp only[Bool.and_eq_true,beq_iff_eq] at hB;have hi:l[i]? =some l[i]:=List.getElem?_eq_getElem hin.2.1;refine ZdG hsk hsel hQ (hS (by simp)) _ _ fs (Zbx l fs) listed listed' a (by rw[hops];exact Zbp hin.1) hL.1 hc hF h fun a' hc' h'=> ?_;simp only[hi] at h';refine ⟨(fun h0=>by rw[h0] at hB;exact nomatch hB.1),fun j hj=> ?_⟩;have hjr:j∈Region.ready .any ops listed':=hj;rw[hB.1] at hj;obtain rfl:=List.mem_singleton.1 hj;unfold wpOp;have ho:ops[j]? =some l[j]:=(by rw[hops];simp);simp only[ho];have hend: ∀ w2,(j≠last->S w2)->r≠[]->S w2:=fun w2 h2 hr=>h2 (by
    rcases hL.2.1 with h3|h3
    ·exact h3
    ·exact (hr (List.isEmpty_iff.1 h3)).elim)
   split
   ·rename_i hw;rw[if_pos hw] at h';exact .inl (Oper.wp_mono (fun a2 w2 h2=>⟨h2.1,ZcH l hops hsk hsel hQ r _ a2 w2 (hend w2 h2.1) (hc'.add hjr) hL.2.2 hin.2.2 hB.2 h2.2⟩) h')
   ·rename_i hw;rw[if_neg hw] at h';exact ⟨fun _=>h'.1,ZcH l hops hsk hsel hQ r _ _ w (fun _=>h'.1) (hc'.add hjr) hL.2.2 hin.2.2 hB.2 h'.2⟩
  ·cases hB
end
theorem Zaq (sg:List (List Nat×Option Nat)) (hm:P.follows .mixedOrders=true)
  (hB:(sinkB .any l.toArray last&&(ZhX last sg&&(Region.noSelect l.toArray&&(Zew sg==l.length&&(Zcx l.length sg&&Zcz l.toArray sg (Array.replicate l.length false))))))=true)
  (hQ: ∀ c (a:Act) d v w,Q (.panic c) (a.put (some d) v) w->Q (.panic c) a w) (hS:S w.drew) (h:ZeQ P l.toArray l S last Q sg a w.drew):(Code.region id l.toArray true).wp P Q a w:=by
 simp only[Bool.and_eq_true,beq_iff_eq] at hB;obtain ⟨hsk,hL,hsel,hn,hin,hb⟩:=hB;refine wp_region_any hm (Zjn (S:=S) (last:=last) _ _ _ _ ?_);have:=ZcH (P:=P) (Q:=Q) (S:=S) l rfl hsk hsel hQ sg (Array.replicate l.length false) a _ (fun _=>hS) (fun j o _ hj=>by
  rw[show (Array.replicate l.length false).getD j false=false by
   rcases Nat.lt_or_ge j l.length with h'|h'
   ·simp[h']
   ·simp[h']] at hj
  cases hj) hL hin hb h
 rw[hn] at this;simpa using this
theorem ZT {i:Nat} (hw:Region.wanted o (yielded ops a.tmps)=true)
  (h: ∀ K:Act->World->Prop,(∀ a w,(i≠last->S w)->N a w->K a w)->o.wp P a w K Q):if Region.wanted o (yielded ops a.tmps)=true then o.wp P a w (fun a2 w2=>(i≠last->S w2)/\N a2 w2) Q else S w/\N (a.put o.dst undef) w:=by
 rw[if_pos hw];exact h _ fun a w h1 h2=>⟨h1,h2⟩
theorem Zbb (h:Q .normal a w):ZeQ P ops l S last Q [] a w:=h

end Go.Proofs.YtjpcgofidijigaaGreatDoor
