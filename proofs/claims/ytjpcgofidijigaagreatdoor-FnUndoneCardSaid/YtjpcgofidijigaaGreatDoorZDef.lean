/- []Def: definitions, read and owned. -/
import Derived.Test.YtjpcgofidijigaaGreatDoorZRdc
import Derived.Test.YtjpcgofidijigaaGreatDoorZAddM
import Derived.Test.YtjpcgofidijigaaGreatDoorZDet
import Derived.Test.YtjpcgofidijigaaGreatDoorZSmith
import Derived.Test.YtjpcgofidijigaaGreatDoorZDetI
import Derived.Test.YtjpcgofidijigaaGreatDoorZRedI
set_option maxHeartbeats 8000000
set_option maxRecDepth 100000
namespace Go.Proofs.YtjpcgofidijigaaGreatDoor
open Go.RowKit
open Lib (hid)
open Go.Value renaming int->Yv
open Go.IntKind renaming i64->Yi
variable {F G S T:Nat->Prop} {P:Program} {cap g k n o:Nat} {m r:Mat} {s v:Value} {t ty:TypeId} {w w':World}
structure Dfn where
 name:ByteArray
 op:Int
 a:ByteArray
 b:ByteArray
 value:Mat
variable {d:Dfn} {l:List Dfn}
def Zaa (d:Dfn) (s:Value):List Value:=[.string d.name,Yv Yi d.op, .string d.a, .string d.b,Yv Yi d.value.rows,Yv Yi d.value.cols,s]
def Zat:List Dfn->List Value->List Value
 |d::l,s::ss=>Zaa d s++Zat l ss
 |_,_=>[]
theorem Ziq: ∀ {l:List Dfn} {ss:List Value},ss.length=l.length->(Zat l ss).length=l.length*7
 |[],[],_=>rfl
 |[],_::_,h=>by simp at h
 |_::_,[],h=>by simp at h
 |d::l,s::ss,h=>by simp only[Zat,List.length_append,Ziq (l:=l) (ss:=ss) (by simpa using h),Zaa,List.length_cons,List.length_nil];omega
theorem ZhI: ∀ {l:List Dfn} {ss:List Value} {k j:Nat} {d:Dfn} {s:Value},l[k]? =some d->ss[k]? =some s->j<7->(Zat l ss)[k*7+j]? =(Zaa d s)[j]?
 |[],_,k,j,d,s,h,_,_=>by simp at h
 |_::_,[],k,j,d,s,_,h,_=>by simp at h
 |d'::l,s'::ss,0,j,d,s,h,h',hj=>by simp at h h';subst h;subst h';simp only[Zat];rw[List.getElem?_append_left (by simp[Zaa];omega)];simp
 |d'::l,s'::ss,k+1,j,d,s,h,h',hj=>by simp only[Zat];rw[List.getElem?_append_right (by simp[Zaa];omega),show (k+1)*7+j-(Zaa d' s').length=k*7+j from by simp[Zaa];omega];exact ZhI (by simpa using h) (by simpa using h') hj
theorem Zfv: ∀ {l r:List Dfn} {ss tt:List Value},ss.length=l.length->Zat (l++r) (ss++tt)=Zat l ss++Zat r tt
 |[],r,[],tt,_=>rfl
 |[],_,_::_,_,h=>by simp at h
 |_::_,_,[],_,h=>by simp at h
 |d::l,r,s::ss,tt,h=>by simp[Zat,Zfv (l:=l) (r:=r) (ss:=ss) (tt:=tt) (by simpa using h)]
theorem Zma (d:Dfn) (s:Value):Zat [d] [s]=Zaa d s:=by simp[Zat]
theorem Zkh: ∀ {l:List Dfn} {ss:List Value} (k:Nat),ss.length=l.length->Zat (l.take k) (ss.take k)=(Zat l ss).take (k*7)
 |[],[],k,_=>by simp[Zat]
 |[],_::_,_,h=>by simp at h
 |_::_,[],_,h=>by simp at h
 |d::l,s::ss,0,h=>by simp[Zat]
 |d::l,s::ss,k+1,h=>by simp only[List.take_succ_cons,Zat,Zkh (l:=l) (ss:=ss) k (by simpa using h)];rw[List.take_append,show (k+1)*7-(Zaa d s).length=k*7 from by simp[Zaa];omega,List.take_of_length_le (show (Zaa d s).length<=(k+1)*7 from by simp[Zaa];omega)]
def DOk (d:Dfn):Prop:=d.name.size<=maxLen/\I64 d.op/\d.a.size<=maxLen/\d.b.size<=maxLen/\I64 d.value.rows/\I64 d.value.cols
def Zay (l:List Dfn):List (List Int):=l.map (·.value.cells)
@[simp] theorem ZsU (l:List Dfn):(Zay l).length=l.length:=by simp[Zay]
theorem Zl4 (h:l[k]? =some d):(Zay l)[k]? =some d.value.cells:=by simp[Zay,h]
theorem Zg5 (l r:List Dfn):Zay (l++r)=Zay l++Zay r:=by simp[Zay]
theorem Zn0 (l:List Dfn) (k:Nat):Zay (l.take k)=(Zay l).take k:=by simp[Zay,List.map_take]
structure RdD (w:World) (S:Nat->Prop) (a:Option Addr) (n cap:Nat) (l:List Dfn):Prop where
 row: ∃ ss:List Value,ss.length=l.length/\Row w S 7 a n cap (Zat l ss)/\RdCells w S ss (Zay l)
 len:l.length=n
 ok: ∀ d∈l,DOk d
theorem RdD.keep {a:Option Addr} (h:RdD w S a n cap l) (hk:Keep T w w') (hST: ∀ b,b<w.heap.size->S b->T b):RdD w' S a n cap l:=by
 obtain ⟨⟨ss,h0,h1,h2⟩,hl,ho⟩:=h;exact ⟨⟨ss,h0,h1.keep hk hST,h2.keep hk hST⟩,hl,ho⟩
theorem RdD.grow {a:Option Addr} (h:RdD w S a n cap l) (hk:Grow w w'):RdD w' S a n cap l:=h.keep hk fun _ _ _=>trivial
theorem RdD.weak {a:Option Addr} (h:RdD w S a n cap l) (hST: ∀ b,b<w.heap.size->S b->T b):RdD w T a n cap l:=by
 obtain ⟨⟨ss,h0,h1,h2⟩,hl,ho⟩:=h;exact ⟨⟨ss,h0,h1.weak hST,h2.weak hST⟩,hl,ho⟩
theorem RdD.cap_le {a:Option Addr} (h:RdD w S a n cap l):n<=cap/\cap<=maxLen:=by
 obtain ⟨⟨ss,h0,h1,h2⟩,hl,ho⟩:=h;exact ⟨h1.le,h1.max⟩
structure DAt (w:World) (b o:Nat) (d:Dfn) (s:Value):Prop where
 c0:w.cell? ⟨b,o,none⟩=some (.string d.name)
 c1:w.cell? ⟨b,o+1,none⟩=some (Yv Yi d.op)
 c2:w.cell? ⟨b,o+2,none⟩=some (.string d.a)
 c3:w.cell? ⟨b,o+3,none⟩=some (.string d.b)
 c4:w.cell? ⟨b,o+4,none⟩=some (Yv Yi d.value.rows)
 c5:w.cell? ⟨b,o+5,none⟩=some (Yv Yi d.value.cols)
 c6:w.cell? ⟨b,o+6,none⟩=some s
theorem DAt.keep {b:Nat} (h:DAt w b o d s) (hk:Keep S w w') (hS:S b):DAt w' b o d s:=
 ⟨hk.cell hS h.c0,hk.cell hS h.c1,hk.cell hS h.c2,hk.cell hS h.c3,hk.cell hS h.c4,hk.cell hS h.c5,hk.cell hS h.c6⟩
theorem DAt.grow {b:Nat} (h:DAt w b o d s) (hk:Grow w w'):DAt w' b o d s:=h.keep hk trivial
theorem DAt.of_blk (h:Blk w g (Zaa d s).toArray t):DAt w g 0 d s:=
 ⟨h.cell 0,h.cell 1,h.cell 2,h.cell 3,h.cell 4,h.cell 5,h.cell 6⟩
theorem RdD.at {a:Option Addr} (h:RdD w S a n cap l) (hk:k<n):
  ∃ b off d a1 c1,a=some ⟨b,off,none⟩/\l[k]? =some d/\S b/\b<w.heap.size/\DAt w b (off+k*7) d (.slice a1 d.value.cells.length c1)/\RdI w S a1 d.value.cells.length c1 d.value.cells/\DOk d:=by
 obtain ⟨⟨ss,h0,h1,h2⟩,hl,ho⟩:=h;have hlt:k<l.length:=by omega
 have hk':l[k]? =some l[k]:=List.getElem?_eq_getElem hlt;obtain ⟨a1,c1,h3,h4⟩:=h2 _ _ (Zl4 hk');obtain ⟨b,off,ha,hS,hc⟩:=h1.addr (by
  intro e;have:=ZhI (j:=0) hk' h3 (by omega);rw[e] at this;simp[Zaa] at this)
 have key: ∀ j v,j<7->(Zaa l[k] (.slice a1 l[k].value.cells.length c1))[j]? =some v->w.cell? ⟨b,off+k*7+j,none⟩=some v:=fun j v hj hv=>by rw[Nat.add_assoc];exact hc _ _ (by rw[ZhI hk' h3 hj];exact hv)
 have k0:=key 0 _ (by omega) rfl;exact ⟨b,off,l[k],a1,c1,ha,hk',hS,World.block_lt_of_cell? w _ k0,⟨k0,key 1 _ (by omega) rfl,key 2 _ (by omega) rfl,key 3 _ (by omega) rfl,key 4 _ (by omega) rfl,key 5 _ (by omega) rfl,key 6 _ (by omega) rfl⟩,h4,ho _ (List.getElem_mem hlt)⟩
theorem RdD.pre {a:Option Addr} (h:RdD w S a n cap l) (hk:k<=n):RdD w S a k cap (l.take k):=by
 obtain ⟨⟨ss,h0,h1,h2⟩,hl,ho⟩:=h;refine ⟨⟨ss.take k,by simp[h0],by rw[Zkh k h0];exact h1.pre hk,fun i xs hi=> ?_⟩,by simp;omega,fun d hd=>ho d (List.mem_of_mem_take hd)⟩;rw[Zn0,List.getElem?_take] at hi;split at hi
 ·rename_i hlt;obtain ⟨b,c,h3,h4⟩:=h2 i xs hi;exact ⟨b,c,by rw[List.getElem?_take,if_pos hlt];exact h3,h4⟩
 ·cases hi
structure SepD (w:World) (F:Nat->Prop) (a:Option Addr) (n cap:Nat) (l:List Dfn):Prop where
 own: ∃ ss,Own w 36 7 a n cap (Zat l ss)/\Inner w F (blk a) ss (Zay l)
 len:l.length=n
 ok: ∀ d∈l,DOk d
 lo: ∀ g,blk a=some g->F g
theorem SepD.keep {a:Option Addr} (h:SepD w F a n cap l) (hk:Keep T w w') (hT: ∀ b,b<w.heap.size->F b->T b):SepD w' F a n cap l:=by
 obtain ⟨⟨vs,h1,h2⟩,hl,ho,h3⟩:=h;exact ⟨⟨vs,h1.keep hk (fun g hg hlt=>hT g hlt (h3 g hg)),h2.keep hk (fun b hb hF _=>hT b hb hF)⟩,hl,ho,h3⟩
theorem SepD.grow {a:Option Addr} (h:SepD w F a n cap l) (hk:Grow w w'):SepD w' F a n cap l:=h.keep hk fun _ _ _=>trivial
theorem SepD.weak {a:Option Addr} (h:SepD w F a n cap l) (hF: ∀ b,b<w.heap.size->F b->G b):SepD w G a n cap l:=by
 obtain ⟨⟨vs,h1,h2⟩,hl,ho,h3⟩:=h;exact ⟨⟨vs,h1,h2.weak fun b hb hFb hne=>⟨hF b hb hFb,hne⟩⟩,hl,ho,fun g hg=>hF g (h1.lt hg) (h3 g hg)⟩
theorem SepD.rdD {a:Option Addr} (h:SepD w F a n cap l) (hS: ∀ b,F b->S b):RdD w S a n cap l:=by
 obtain ⟨⟨vs,h1,h2⟩,hl,ho,h3⟩:=h;exact ⟨⟨vs,by have:=h2.len;simpa using this,h1.row fun g hg=>hS g (h3 g hg),h2.rdCells fun b hb _=>hS b hb⟩,hl,ho⟩
theorem Blk.seven {a b c d e f x:Value} (h:Blk w g #[a,b,c,d,e,f,x] t):
  (w.cell? ⟨g,0,none⟩=some a/\w.cell? ⟨g,1,none⟩=some b/\w.cell? ⟨g,2,none⟩=some c/\w.cell? ⟨g,3,none⟩=some d/\w.cell? ⟨g,4,none⟩=some e/\w.cell? ⟨g,5,none⟩=some f/\w.cell? ⟨g,6,none⟩=some x)/\w.frozen? ⟨g,0,none⟩=false:=
 ⟨⟨h.cell 0,h.cell 1,h.cell 2,h.cell 3,h.cell 4,h.cell 5,h.cell 6⟩,h.free 0⟩
theorem ZS:StT Tryz.prog 36 7:=⟨_,Tryz.underlying36,by kernel_rfl⟩
theorem T_defs:SlT Tryz.prog 24 36 (.agg #[.string ⟨#[]⟩,Yv Yi 0, .string ⟨#[]⟩, .string ⟨#[]⟩,Yv Yi 0,Yv Yi 0, .slice none 0 0]) 7 96:=SlT.mk' Tryz.underlying24 (by kernel_rfl) rfl
theorem StT.load7 (h:StT P ty 7) {b:Nat} (hd:DAt w b o d s):(loadVar ty ⟨b,o,none⟩).run P w= .ok (.agg (Zaa d s).toArray) w:=by
 obtain ⟨fs,hu,hi⟩:=h;obtain ⟨i,hi',hs⟩:=Option.map_eq_some_iff.1 hi;have hg:(isAgg ty).run P w= .ok true w:=by simp[isAgg,run_underlying hu]
 have hsz:(sizeOf ty).run P w= .ok 7 w:=by simp[sizeOf,typeInfo,hi',hs]
 have hl:=run_loadCells_list (P:=P) (w:=w) ⟨b,o,none⟩ (Zaa d s) (fun j x hj=>by
  match j,hj with
  |0,hj=>simp[Zaa] at hj;subst hj;simpa [Addr.add] using hd.c0
  |1,hj=>simp[Zaa] at hj;subst hj;simpa [Addr.add] using hd.c1
  |2,hj=>simp[Zaa] at hj;subst hj;simpa [Addr.add] using hd.c2
  |3,hj=>simp[Zaa] at hj;subst hj;simpa [Addr.add] using hd.c3
  |4,hj=>simp[Zaa] at hj;subst hj;simpa [Addr.add] using hd.c4
  |5,hj=>simp[Zaa] at hj;subst hj;simpa [Addr.add] using hd.c5
  |6,hj=>simp[Zaa] at hj;subst hj;simpa [Addr.add] using hd.c6
  |j+7,hj=>simp[Zaa] at hj)
 simp only[show (Zaa d s).length=7 from rfl] at hl;simp[loadVar,hg,hsz,hl]
theorem ZR {C:World->Prop} {o:Oper} {a:Act} {K:Act->Prop} {x:Operand} {b j:Nat} (hty:StT P ty 7) (ho:o.op= .load ty x) (hx:a.eval x= .pointer (some ⟨b,j,none⟩))
  (hv: ∀ w',C w'->DAt w' b j d s) (hk:K (a.put o.dst (.agg #[.string d.name,Yv Yi d.op, .string d.a, .string d.b,Yv Yi d.value.rows,Yv Yi d.value.cols,s]))):o.quiet P a C K:=by
 refine ⟨.agg (Zaa d s).toArray,fun w hw=> ?_,hk⟩;have h:=hty.load7 (hv w hw);unfold Oper.quietAt execOp;simp[ho,hx,Instr.loadAt,Instr.sureAddr,h,Oper.quietUpon]
def VDD (w:World) (S:Nat->Prop) (v:Value) (l:List Dfn):Prop:= ∃ a n c,v= .slice a n c/\RdD w S a n c l
def ODD (w:World) (F:Nat->Prop) (v:Value) (l:List Dfn):Prop:= ∃ a n c,v= .slice a n c/\SepD w F a n c l
def VD (w:World) (S:Nat->Prop) (v:Value) (d:Dfn):Prop:= ∃ a n c,v= .agg #[.string d.name,Yv Yi d.op, .string d.a, .string d.b,Yv Yi d.value.rows,Yv Yi d.value.cols, .slice a n c]/\RdI w S a n c d.value.cells/\DOk d
def OD (w:World) (F:Nat->Prop) (v:Value) (d:Dfn):Prop:= ∃ a n c,v= .agg #[.string d.name,Yv Yi d.op, .string d.a, .string d.b,Yv Yi d.value.rows,Yv Yi d.value.cols, .slice a n c]/\Own w 3 1 a n c (ints d.value.cells)/\(∀ x∈d.value.cells,I64 x)/\(∀ g,blk a=some g->F g)/\DOk d
def bdD (d:Dfn):Nat:=d.name.size+d.a.size+d.b.size+d.value.cells.length
def ZbJ (l:List Dfn):Nat:=(l.map bdD).sum
def Zae (l:List Dfn):Nat:=l.length+ZbJ l
@[simp] theorem Zs1:ZbJ []=0:=rfl
@[simp] theorem ZoY (d:Dfn) (l:List Dfn):ZbJ (d::l)=bdD d+ZbJ l:=by simp[ZbJ]
theorem ZdW (l r:List Dfn):ZbJ (l++r)=ZbJ l+ZbJ r:=by simp[ZbJ]
theorem ZhR (h:l[k]? =some d):ZbJ (l.take (k+1))=ZbJ (l.take k)+bdD d/\ZbJ (l.take k)+bdD d<=ZbJ l:=by
 have h1:ZbJ (l.take (k+1))=ZbJ (l.take k)+bdD d:=by rw[ZH h,ZdW];simp
 refine ⟨h1, ?_⟩;rw[←h1]
 conv=>rhs;rw[←List.take_append_drop (k+1) l]
 rw[ZdW];omega
theorem VDD.keep (h:VDD w S v l) (hk:Keep T w w') (hST: ∀ b,b<w.heap.size->S b->T b):VDD w' S v l:=by
 obtain ⟨a,n,c,rfl,h⟩:=h;exact ⟨a,n,c,rfl,h.keep hk hST⟩
theorem VDD.grow (h:VDD w S v l) (hk:Grow w w'):VDD w' S v l:=h.keep hk fun _ _ _=>trivial
theorem VDD.weak (h:VDD w S v l) (hST: ∀ b,b<w.heap.size->S b->T b):VDD w T v l:=by
 obtain ⟨a,n,c,rfl,h⟩:=h;exact ⟨a,n,c,rfl,h.weak hST⟩
theorem ODD.keep (h:ODD w F v l) (hk:Keep T w w') (hT: ∀ b,b<w.heap.size->F b->T b):ODD w' F v l:=by
 obtain ⟨a,n,c,rfl,h⟩:=h;exact ⟨a,n,c,rfl,h.keep hk hT⟩
theorem ODD.grow (h:ODD w F v l) (hk:Grow w w'):ODD w' F v l:=h.keep hk fun _ _ _=>trivial
theorem ODD.weak (h:ODD w F v l) (hF: ∀ b,b<w.heap.size->F b->G b):ODD w G v l:=by
 obtain ⟨a,n,c,rfl,h⟩:=h;exact ⟨a,n,c,rfl,h.weak hF⟩
theorem ODD.rd (h:ODD w F v l) (hS: ∀ b,F b->S b):VDD w S v l:=by
 obtain ⟨a,n,c,rfl,h⟩:=h;exact ⟨a,n,c,rfl,h.rdD hS⟩
theorem VD.keep (h:VD w S v d) (hk:Keep T w w') (hST: ∀ b,b<w.heap.size->S b->T b):VD w' S v d:=by
 obtain ⟨a,n,c,rfl,h,ho⟩:=h;exact ⟨a,n,c,rfl,h.keep hk hST,ho⟩
theorem VD.grow (h:VD w S v d) (hk:Grow w w'):VD w' S v d:=h.keep hk fun _ _ _=>trivial
theorem VD.weak (h:VD w S v d) (hST: ∀ b,b<w.heap.size->S b->T b):VD w T v d:=by
 obtain ⟨a,n,c,rfl,h,ho⟩:=h;exact ⟨a,n,c,rfl,h.weak hST,ho⟩
theorem OD.keep (h:OD w F v d) (hk:Keep T w w') (hT: ∀ b,b<w.heap.size->F b->T b):OD w' F v d:=by
 obtain ⟨a,n,c,rfl,h1,h2,h3,ho⟩:=h;exact ⟨a,n,c,rfl,h1.keep hk (fun g hg hlt=>hT g hlt (h3 g hg)),h2,h3,ho⟩
theorem OD.grow (h:OD w F v d) (hk:Grow w w'):OD w' F v d:=h.keep hk fun _ _ _=>trivial
theorem OD.weak (h:OD w F v d) (hF: ∀ b,b<w.heap.size->F b->G b):OD w G v d:=by
 obtain ⟨a,n,c,rfl,h1,h2,h3,ho⟩:=h;exact ⟨a,n,c,rfl,h1,h2,fun g hg=>hF g (h1.lt hg) (h3 g hg),ho⟩
theorem OD.rd (h:OD w F v d) (hS: ∀ b,F b->S b):VD w S v d:=by
 obtain ⟨a,n,c,rfl,h1,h2,h3,ho⟩:=h;exact ⟨a,n,c,rfl,h1.rdI (fun g hg=>hS g (h3 g hg)) h2,ho⟩
def Ze3:Dfn:=⟨⟨#[]⟩,0,⟨#[]⟩,⟨#[]⟩,⟨0,0,[]⟩⟩
def dset (l:List Value) (o:Nat) (d:Dfn) (s:Value):List Value:=
 (((((((l.set o (.string d.name)).set (o+1) (Yv Yi d.op)).set (o+2) (.string d.a)).set (o+3) (.string d.b)).set (o+4) (Yv Yi d.value.rows)).set (o+5) (Yv Yi d.value.cols)).set (o+6) s)
theorem Zmu {l r:List Value} (h:l.length<=o):dset (l++r) o d s=l++dset r (o-l.length) d s:=by
 unfold dset;rw[List.set_append_right _ _ (by omega),List.set_append_right _ _ (by omega),List.set_append_right _ _ (by omega),List.set_append_right _ _ (by omega),List.set_append_right _ _ (by omega),List.set_append_right _ _ (by omega),List.set_append_right _ _ (by omega)];rw[show o+1-l.length=o-l.length+1 from by omega,show o+2-l.length=o-l.length+2 from by omega,show o+3-l.length=o-l.length+3 from by omega,show o+4-l.length=o-l.length+4 from by omega,show o+5-l.length=o-l.length+5 from by omega,show o+6-l.length=o-l.length+6 from by omega]
theorem Zlx: ∀ {l:List Dfn} {ss:List Value} {k:Nat} {d:Dfn} {s:Value},ss.length=l.length->k<l.length->dset (Zat l ss) (k*7) d s=Zat (l.set k d) (ss.set k s)
 |[],_,k,d,s,_,h=>by simp at h
 |_::_,[],k,d,s,h,_=>by simp at h
 |d'::l,s'::ss,0,d,s,h,_=>by simp only[Zat,Zaa,List.set_cons_zero,Nat.zero_mul,dset,List.cons_append,List.set_cons_succ,Nat.zero_add,List.nil_append]
 |d'::l,s'::ss,k+1,d,s,h,hk=>by simp only[Zat,List.set_cons_succ];have hl:(Zaa d' s').length=7:=rfl;rw[Zmu (by rw[hl];omega),hl,show (k+1)*7-7=k*7 from by omega,Zlx (by simpa using h) (by simpa using hk)]
theorem Own.dset {e:TypeId} {p:Addr} {L:List Dfn} {ss:List Value} (h:Own w e 7 (some p) n cap (Zat L ss)) (hl:ss.length=L.length) (hk:k<L.length):
  Own (((((((w.setCell ⟨p.block,k*7,none⟩ (.string d.name)).setCell ⟨p.block,k*7+1,none⟩ (Yv Yi d.op)).setCell ⟨p.block,k*7+2,none⟩ (.string d.a)).setCell ⟨p.block,k*7+3,none⟩ (.string d.b)).setCell ⟨p.block,k*7+4,none⟩ (Yv Yi d.value.rows)).setCell ⟨p.block,k*7+5,none⟩ (Yv Yi d.value.cols)).setCell ⟨p.block,k*7+6,none⟩ s) e 7 (some p) n cap (Zat (L.set k d) (ss.set k s)):=by
 rw[←Zlx hl hk];exact ((((((h.set _ _).set _ _).set _ _).set _ _).set _ _).set _ _).set _ _
def ZD (l:List Dfn) (s:ByteArray):Int:=firstIdx (fun d=>d.name.toList==s.toList) l
theorem Zeo (a:Option Addr) (n cap:Nat) (l:List Dfn) (s:ByteArray) (w:World) (h:RdD w S a n cap l) (hn:n<=2097152):
  Calls Tryz.prog 54 #[.slice a n cap, .string s] w fun e w'=>e= .returned (Yv Yi (ZD l s))/\w=w':=by
 have Hl:=hid h.len;go_enter Tryz.func54,Tryz.ntmps54;go_wp2;go_loop [5] (fun i=> ∃ k:Nat,k<=n/\i=Yv Yi k/\ ∀ d∈l.take k,(d.name.toList==s.toList)=false) (fun i=>n-(intOf i).toNat);case atStart=>exact ⟨0,Nat.zero_le _,rfl,by simp⟩
 case round=>
  obtain ⟨k,hk,rfl,he⟩:=hrel;have He:=hid he;clear he;by_cases hlt:k<n
  ·obtain ⟨b,off,d,a1,c1,rfl,hx,_,hbw,⟨e0, -, -, -, -, -, -⟩, -, -⟩:=h.at hlt;have Hx:=hid hx;clear hx;cases hd:d.name.toList==s.toList with
   |true=>go_wp2;go_ret;exact ⟨ZU (Zd0 He.out Hx.out hd).symm,rfl⟩
   |false=>
    go_wp2
    go_round
    case rel=>
     refine ⟨k+1,by omega,by go_num,fun z hz=> ?_⟩;rw[ZH Hx.out,List.mem_append,List.mem_singleton] at hz;rcases hz with hz|rfl
     ·exact He.out z hz
     ·exact hd
    case measure=>simp[intOf];omega
  ·go_wp2;go_ret;have:k=n:=(by omega);subst this;have:=He.out;rw[Z7 Hl.out] at this;exact ⟨ZU (Zfw this).symm,rfl⟩
theorem ZkK (s:ByteArray) (d:Dfn) (sv:Value) (g:Nat) (w:World) (hg:w.cell? ⟨g,0,none⟩=some (.string s)):
  Calls Tryz.prog 69 #[.agg #[.string d.name,Yv Yi d.op, .string d.a, .string d.b,Yv Yi d.value.rows,Yv Yi d.value.cols,sv], .pointer (some ⟨g,0,none⟩)] w fun e w'=>e= .returned (.bool (d.name.toList==s.toList))/\Grow w w':=by
 have hG:Grow w (w.alloc (.cells #[.string d.name,Yv Yi d.op, .string d.a, .string d.b,Yv Yi d.value.rows,Yv Yi d.value.cols,sv] 36)):=(Grow.refl w).alloc _ _;have hg':=hG.cell hg;go_enter Tryz.func69,Tryz.ntmps69;go_wp2;go_ret;exact ⟨rfl,hG⟩
theorem ZmE (a:Option Addr) (n cap g:Nat) (l:List Dfn) (s:ByteArray) (w:World) (h:RdD w S a n cap l) (hg:w.cell? ⟨g,0,none⟩=some (.string s)) (hn:n<=2097152):
  Calls Tryz.prog 68 #[.slice a n cap, .func (.func 69) #[] #[.pointer (some ⟨g,0,none⟩)]] w fun e w'=>e= .returned (Yv Yi (ZD l s))/\Grow w w':=by
 have Hl:=hid h.len;go_enter Tryz.func68,Tryz.ntmps68;go_wp2;go_loopw [8] (fun i wr=>Grow w wr/\ ∃ k:Nat,k<=n/\i=Yv Yi k/\ ∀ d∈l.take k,(d.name.toList==s.toList)=false) (fun i _=>n-(intOf i).toNat);case atStart=>exact ⟨Grow.refl _,0,Nat.zero_le _,rfl,by simp⟩
 case round=>
  obtain ⟨hG,k,hk,rfl,he⟩:=hrel;have He:=hid he;clear he;by_cases hlt:k<n
  ·obtain ⟨b,off,d,a1,c1,rfl,hx,_,hbw,⟨e0,e1,e2,e3,e4,e5,e6⟩, -, -⟩:=(h.grow hG).at hlt;have Hx:=hid hx;clear hx;go_wp2_with fail;refine (ZkK s d _ g _ (hG.cell hg)).mono ?_;rintro e w' ⟨rfl,hG1⟩;cases hd:d.name.toList==s.toList with
   |true=>go_wp2;go_ret;exact ⟨ZU (Zd0 He.out Hx.out hd).symm,hG.trans hG1⟩
   |false=>
    go_wp2;go_roundw;case rel=>
     refine ⟨hG.trans hG1,k+1,by omega,by go_num,fun z hz=> ?_⟩;rw[ZH Hx.out,List.mem_append,List.mem_singleton] at hz;rcases hz with hz|rfl
     ·exact He.out z hz
     ·exact hd
    case measure=>simp[intOf];omega
  ·go_wp2;go_ret;have:k=n:=(by omega);subst this;have:=He.out;rw[Z7 Hl.out] at this;exact ⟨ZU (Zfw this).symm,hG⟩
theorem Zc2 (a:Option Addr) (n cap:Nat) (l:List Dfn) (s:ByteArray) (w:World) (h:RdD w S a n cap l) (hn:n<=2097152):
  Calls Tryz.prog 39 #[.slice a n cap, .string s] w fun e w'=>e= .returned (Yv Yi (ZD l s))/\Grow w w':=by
 have hG:Grow w (w.alloc (.cells #[.string s] 9)):=(Grow.refl w).alloc _ _;have hb:(w.alloc (.cells #[.string s] 9)).cell? ⟨w.heap.size,0,none⟩=some (.string s):=(Blk.new w #[.string s] 9).cell 0;go_enter Tryz.func39,Tryz.ntmps39;go_wp2_with fail;refine (ZmE _ _ _ w.heap.size l s _ (h.grow hG) hb hn).mono ?_;rintro e w1 ⟨rfl,hG1⟩;go_wp2;go_ret;exact ⟨rfl,hG.trans hG1⟩
def ZfD (m:Mat):Option Mat:=if Ze m=true then (Zb7 m.cells m.rows.toNat m.cols.toNat).map fun s=>{rows:=m.rows,cols:=m.cols,cells:=s.1} else none
def Zfs (m:Mat):Option Mat:=if Ze m=true then (ZcM m.cells m.rows.toNat m.cols.toNat).map fun s=>{rows:=m.rows,cols:=m.cols,cells:=s.1} else none
def okF (b:Bool) (m:Mat):Option Mat:=if b=true then some m else none
def opF (op:Int) (a b:Mat):Option Mat:=
 if op=1 then okF (ZhB a b) (amB a b)
 else if op=2 then okF (ZB a b) (Zu a b)
 else if op=3 then okF (Ze a) (trB a)
 else if op=4 then okF (Zf1 a) {rows:=1,cols:=1,cells:=[dtV a]}
 else if op=5 then ZfD a
 else if op=6 then Zfs a
 else if op=7 then okF (ZeI a) (Zen a)
 else if op=8 then okF (ZbI a) (ZbO a)
 else okF (Zcj a) (ZcF a)
theorem Zor (b:Bool) (m:Mat):(okF b m).isSome=b:=by unfold okF;cases b<;>rfl
theorem Zdw {b:Bool} {x:Mat} (h:okF b m=some x):x=m:=by unfold okF at h;split at h;exact (Option.some.inj h).symm;cases h
theorem ZrX (h:VM w S v m) (hb:bdM m<=1048576):
  Calls Tryz.prog 137 #[v] w fun e w'=> ∃ x1 x2 x3 x4 x5 y1 y2 y3 y4 y5,e= .returned (.tuple #[.agg #[Yv Yi x1,Yv Yi x2, .slice x3 x4 x5], .agg #[Yv Yi y1,Yv Yi y2, .slice y3 y4 y5], .bool (ZfD m).isSome])/\(∀ r,ZfD m=some r->OM w' (fun q=>w.heap.size<=q) (.agg #[Yv Yi x1,Yv Yi x2, .slice x3 x4 x5]) r)/\Grow w w':=by
 have hV:=h;obtain ⟨a,n,c,rfl,h,ir,ic⟩:=h;cases hB:Ze m with
 |false=>
  refine (Zfx hV hb hB).mono ?_;rintro e w' ⟨rfl,hG⟩;have hn:ZfD m=none:=by unfold ZfD;rw[hB];rfl
  exact ⟨_,_,_,_,_,_,_,_,_,_,by rw[hn];rfl,(fun s hs=>by rw[hn] at hs;cases hs),hG⟩
 |true=>
  obtain ⟨R,C,hmr,hmc,hR,hC,hl,hnum⟩:=Zn hB;have hE:ZfD m=(Zb7 m.cells R C).map fun s=>{rows:=m.rows,cols:=m.cols,cells:=s.1}:=by unfold ZfD;rw[if_pos hB,hmr,hmc,Int.toNat_natCast,Int.toNat_natCast]
  obtain ⟨mr,mc,cells⟩:=m;simp only at hmr hmc hl hnum h hE ir ic;subst hmr;subst hmc;refine (Zhq h hl hnum hR hC).mono ?_;rintro e w' ⟨hG,hr⟩;rw[hE];rcases hr with ⟨hn,rfl⟩|⟨s,aa,ca,au,cu,hn,rfl,⟨h1,h1b,h1c⟩,h2⟩
  ·exact ⟨_,_,_,_,_,_,_,_,_,_,by rw[hn];rfl,(fun s hs=>by rw[hn] at hs;cases hs),hG⟩
  ·refine ⟨_,_,_,_,_,_,_,_,_,_,by rw[hn];rfl,fun s' hs=> ?_,hG⟩;rw[hn] at hs;obtain rfl:=Option.some.inj hs;exact ⟨aa,_,ca,rfl,h1,Zy h1c,h1b,ir,ic⟩
theorem Zp4 (h:VM w S v m) (hb:bdM m<=1048576):
  Calls Tryz.prog 76 #[v] w fun e w'=> ∃ x1 x2 x3 x4 x5 y1 y2 y3 y4 y5 z1 z2 z3 z4 z5,e= .returned (.tuple #[.agg #[Yv Yi x1,Yv Yi x2, .slice x3 x4 x5], .agg #[Yv Yi y1,Yv Yi y2, .slice y3 y4 y5], .agg #[Yv Yi z1,Yv Yi z2, .slice z3 z4 z5], .bool (Zfs m).isSome])/\(∀ r,Zfs m=some r->OM w' (fun q=>w.heap.size<=q) (.agg #[Yv Yi x1,Yv Yi x2, .slice x3 x4 x5]) r)/\Grow w w':=by
 have hV:=h;obtain ⟨a,n,c,rfl,h,ir,ic⟩:=h;cases hB:Ze m with
 |false=>
  refine (Zhx hV hb hB).mono ?_;rintro e w' ⟨rfl,hG⟩;have hn:Zfs m=none:=by unfold Zfs;rw[hB];rfl
  exact ⟨_,_,_,_,_,_,_,_,_,_,_,_,_,_,_,by rw[hn];rfl,(fun s hs=>by rw[hn] at hs;cases hs),hG⟩
 |true=>
  obtain ⟨R,C,hmr,hmc,hR,hC,hl,hnum⟩:=Zn hB;have hE:Zfs m=(ZcM m.cells R C).map fun s=>{rows:=m.rows,cols:=m.cols,cells:=s.1}:=by unfold Zfs;rw[if_pos hB,hmr,hmc,Int.toNat_natCast,Int.toNat_natCast]
  obtain ⟨mr,mc,cells⟩:=m;simp only at hmr hmc hl hnum h hE ir ic;subst hmr;subst hmc;refine (Zji h hl hnum hR hC).mono ?_;rintro e w' ⟨hG,hr⟩;rw[hE];rcases hr with ⟨hn,rfl⟩|⟨s,aa,ca,ub,un,uc,vb,vn,vc,hn,rfl,⟨h1,h1b,h1c⟩⟩
  ·exact ⟨_,_,_,_,_,_,_,_,_,_,_,_,_,_,_,by rw[hn];rfl,(fun s hs=>by rw[hn] at hs;cases hs),hG⟩
  ·refine ⟨_,_,_,_,_,_,_,_,_,_,_,_,_,_,_,by rw[hn];rfl,fun s' hs=> ?_,hG⟩;rw[hn] at hs;obtain rfl:=Option.some.inj hs;exact ⟨aa,_,ca,rfl,h1,Zy h1c,h1b,ir,ic⟩
theorem Zss (h:VM w S v m) (hb:bdM m<=1048576):
  Calls Tryz.prog 140 #[v] w fun e w'=> ∃ x1 x2 x3 x4 x5 y1 y2 y3 y4 y5,e= .returned (.tuple #[.agg #[Yv Yi x1,Yv Yi x2, .slice x3 x4 x5], .agg #[Yv Yi y1,Yv Yi y2, .slice y3 y4 y5], .bool (okF (Zcj m) (ZcF m)).isSome])/\(∀ r,okF (Zcj m) (ZcF m)=some r->OM w' (fun q=>w.heap.size<=q) (.agg #[Yv Yi x1,Yv Yi x2, .slice x3 x4 x5]) r)/\Grow w w':=by
 refine (ZrY h hb).mono ?_;rintro e w' ⟨rv,y1,y2,y3,y4,y5,rfl,⟨ra,rn,rc,rfl,oR,rR,fR,i1,i2⟩,hG⟩;exact ⟨_,_,_,_,_,_,_,_,_,_,by rw[Zor],fun r hr=>by rw[Zdw hr];exact ⟨ra,rn,rc,rfl,oR,rR,fun g hg=>(fR g hg).1,i1,i2⟩,hG⟩
theorem Zsc (m:Mat):I64 (dtV m):=by
 unfold dtV I64;split
 ·cases h:ZaC m.rows.toNat m.cells with
  |none=>simp
  |some d=>have:=Zdc h;simp only[Option.getD_some];omega
 ·omega
def Zpy (r:Option Mat) (w:World) (e:Ending) (w':World):Prop:= ∃ x y a n c,e= .returned (.tuple #[.agg #[Yv Yi x,Yv Yi y, .slice a n c], .bool r.isSome])/\(∀ m,r=some m->OM w' (fun q=>w.heap.size<=q) (.agg #[Yv Yi x,Yv Yi y, .slice a n c]) m)/\Grow w w'
theorem Zns {U:Nat->Prop} {dv u:Value} {A B:Mat} (hd:VD w U dv d) (h:VM w S u A) (h':VM w T v B) (hb:bdM A<=1048576) (hb':bdM B<=1048576):
  Calls Tryz.prog 101 #[dv,u,v] w (Zpy (opF d.op A B) w):=by
 have vA:=h;have vB:=h';obtain ⟨da,dn,dc,rfl, -⟩:=hd;obtain ⟨aa,na,ca,rfl, -⟩:=h;obtain ⟨ab,nb,cb,rfl, -⟩:=h';obtain ⟨w1,hw1,hG, -,bA,bB,bZ, -⟩:=al4 w #[.string d.name,Yv Yi d.op, .string d.a, .string d.b,Yv Yi d.value.rows,Yv Yi d.value.cols, .slice da dn dc] 36 #[Yv Yi A.rows,Yv Yi A.cols, .slice aa na ca] 34 #[Yv Yi B.rows,Yv Yi B.cols, .slice ab nb cb] 34 #[Yv Yi 0,Yv Yi 0, .slice none 0 0] 34;have Hw1:=hid hw1;have HR:=hid (show opF d.op A B=opF d.op A B from rfl);replace vA:=vA.grow hG;replace vB:=vB.grow hG;obtain ⟨res,hres⟩: ∃ x,x=opF d.op A B:=⟨_,rfl⟩;rw[←hres];obtain ⟨op,hop⟩: ∃ x,x=d.op:=⟨_,rfl⟩;rw[←hop] at hres hw1 Hw1 ⊢;clear HR hw1;have HR:=hid hres;obtain ⟨⟨a0,a1,a2⟩, -⟩:=bA.three;obtain ⟨⟨b0,b1,b2⟩, -⟩:=bB.three;have hltA:=bA.lt;have hltB:=bB.lt;rw[Hw1.out] at a0 a1 a2 b0 b1 b2 hltA hltB;clear hres hop;unfold Zpy;by_cases h0:op=1\/op=2\/op=3\/op=7\/op=8
 ·rcases h0 with rfl|rfl|rfl|rfl|rfl
  case' inl=>have HC:=ZsF vA vB hb hb';have HE:=hid (show res=okF (ZhB A B) (amB A B) by rw[HR.out];rfl)
  case' inr.inl=>have HC:=Zcl vA vB (by omega) (by omega);have HE:=hid (show res=okF (ZB A B) (Zu A B) by rw[HR.out];rfl)
  case' inr.inr.inl=>have HC:=Zjz vA hb;have HE:=hid (show res=okF (Ze A) (trB A) by rw[HR.out];rfl)
  case' inr.inr.inr.inl=>have HC:=ZmM vA hb;have HE:=hid (show res=okF (ZeI A) (Zen A) by rw[HR.out];rfl)
  case' inr.inr.inr.inr=>have HC:=ZkF vA hb;have HE:=hid (show res=okF (ZbI A) (ZbO A) by rw[HR.out];rfl)
  all_goals
   replace HC:=hid HC;go_enter Tryz.func101,Tryz.ntmps101;go_wp2_with fail;rw[←Hw1.out];refine HC.out.mono ?_;rintro e w2 ⟨rv,rfl,⟨ra,rn,rc,rfl,oR,rR,fR,i1,i2⟩,hG2⟩;have hs1:w.heap.size+1+1+1<w1.heap.size:=bZ.lt;replace bZ:=bZ.grow hG2;replace hG:=hG.trans hG2;clear HC a0 a1 a2 b0 b1 b2 hltA hltB bA bB;have hle:w.heap.size<=w.heap.size+1+1+1:=(by omega);have hKs: ∀ x y z,Keep (fun q=>q≠w.heap.size+1+1+1) w2 (((w2.setCell ⟨w.heap.size+1+1+1,0,none⟩ x).setCell ⟨w.heap.size+1+1+1,1,none⟩ y).setCell ⟨w.heap.size+1+1+1,2,none⟩ z):=fun x y z=>
    (((Keep.refl _ w2).setCell (fun _ e=>e rfl) _).setCell (fun _ e=>e rfl) _).setCell (fun _ e=>e rfl) _
   have HKs:=hid hKs;clear hKs;obtain ⟨⟨z0,z1,z2⟩,g0,g1,g2⟩:=bZ.three;have hltZ:=bZ.lt;go_wp2;exact Zd Zc rfl rfl rfl (((bZ.set 0 _).set 1 _).set 2 _) ⟨_,_,_,_,_,by rw[HE.out,Zor];rfl,fun m hm=>by rw[HE.out] at hm;rw[Zdw hm];exact ⟨ra,rn,rc,rfl,oR.keep (HKs.out _ _ _) (fun g hg _ e=>by have:=(fR g hg).1;omega),rR,(fun g hg=>by have:=(fR g hg).1;omega),i1,i2⟩,((hG.setCell hle _).setCell hle _).setCell hle _⟩
 by_cases h4:op=4
 ·subst h4;go_enter Tryz.func101,Tryz.ntmps101;go_wp2_with fail;rw[←Hw1.out];refine (ZlS vA hb).mono ?_;rintro e w2 ⟨rfl,hG2⟩;have HE:=hid (show res=okF (Zf1 A) {rows:=1,cols:=1,cells:=[dtV A]} by rw[HR.out];rfl);replace bZ:=bZ.grow hG2;replace hG:=hG.trans hG2;have hs1:w.heap.size+1+1+1<w2.heap.size:=bZ.lt;have hdr:=Zsc A;clear a0 a1 a2 b0 b1 b2 hltA hltB bA bB;cases hok:Zf1 A with
  |false=>
   have HE2:=hid (show res=none by rw[HE.out,hok];rfl);clear hok HE;have hle:w.heap.size<=w.heap.size+1+1+1:=(by omega);have hKs: ∀ x y z,Keep (fun q=>q≠w.heap.size+1+1+1) w2 (((w2.setCell ⟨w.heap.size+1+1+1,0,none⟩ x).setCell ⟨w.heap.size+1+1+1,1,none⟩ y).setCell ⟨w.heap.size+1+1+1,2,none⟩ z):=fun x y z=>
    (((Keep.refl _ w2).setCell (fun _ e=>e rfl) _).setCell (fun _ e=>e rfl) _).setCell (fun _ e=>e rfl) _
   have HKs:=hid hKs;clear hKs;obtain ⟨⟨z0,z1,z2⟩,g0,g1,g2⟩:=bZ.three;have hltZ:=bZ.lt;go_wp2;exact Zd Zc rfl rfl rfl (((bZ.set 0 _).set 1 _).set 2 _) ⟨_,_,_,_,_,by rw[HE2.out];rfl,(fun m hm=>by rw[HE2.out] at hm;cases hm),((hG.setCell hle _).setCell hle _).setCell hle _⟩
  |true=>
   have HE2:=hid (show res=some {rows:=1,cols:=1,cells:=[dtV A]} by rw[HE.out,hok];rfl);clear hok HE;generalize dtV A=dv at *;have hle:w.heap.size<=w.heap.size+1+1+1:=(by omega);have hKs: ∀ x y z,Keep (fun q=>q≠w.heap.size+1+1+1) w2 (((w2.setCell ⟨w.heap.size+1+1+1,0,none⟩ x).setCell ⟨w.heap.size+1+1+1,1,none⟩ y).setCell ⟨w.heap.size+1+1+1,2,none⟩ z):=fun x y z=>
    (((Keep.refl _ w2).setCell (fun _ e=>e rfl) _).setCell (fun _ e=>e rfl) _).setCell (fun _ e=>e rfl) _
   have HKs:=hid hKs;clear hKs;obtain ⟨⟨z0,z1,z2⟩,g0,g1,g2⟩:=bZ.three;have hltZ:=bZ.lt;go_wp2;have oD: ∀ x y z,Own ((((w2.setCell ⟨w.heap.size+1+1+1,0,none⟩ x).setCell ⟨w.heap.size+1+1+1,1,none⟩ y).setCell ⟨w.heap.size+1+1+1,2,none⟩ z).alloc (.cells #[Yv Yi dv] 3)) 3 1 (some ⟨w2.heap.size,0,none⟩) 1 1 (ints [dv]):=fun x y z=>Own.freshAt (by simp) (by unfold maxLen;omega) rfl;exact Zd Zc rfl rfl rfl ((((bZ.set 0 _).set 1 _).set 2 _).alloc _) ⟨_,_,_,_,_,by rw[HE2.out];rfl,(fun m hm=>by rw[HE2.out] at hm;rw[←Option.some.inj hm];exact ⟨_,1,1,rfl,oD _ _ _,(fun x hx=>by rw[List.mem_singleton.1 hx];exact hdr),(fun q hq=>by have:=Option.some.inj hq;simp only at this;omega),by unfold I64;simp,by unfold I64;simp⟩),(((hG.setCell hle _).setCell hle _).setCell hle _).alloc _ _⟩
 have hx:op=5\/op=6\/ ¬ (op=1\/op=2\/op=3\/op=4\/op=5\/op=6\/op=7\/op=8):=by omega
 clear h0 h4;rcases hx with rfl|rfl|h5
 case' inl=>have HC:=ZrX vA hb;have HE:=hid (show res=ZfD A by rw[HR.out];rfl)
 case' inr.inl=>have HC:=Zp4 vA hb;have HE:=hid (show res=Zfs A by rw[HR.out];rfl)
 case' inr.inr=>
  simp only[not_or] at h5;obtain ⟨h1,h2,h3,h4,h5,h6,h7,h8⟩:=h5;have q1:(op==1)=false:=by simp[h1]
  have q2:(op==2)=false:=by simp[h2]
  have q3:(op==3)=false:=by simp[h3]
  have q4:(op==4)=false:=by simp[h4]
  have q5:(op==5)=false:=by simp[h5]
  have q6:(op==6)=false:=by simp[h6]
  have q7:(op==7)=false:=by simp[h7]
  have q8:(op==8)=false:=by simp[h8]
  have HC:=Zss vA hb;have HE:=hid (show res=okF (Zcj A) (ZcF A) by rw[HR.out];unfold opF;rw[if_neg h1,if_neg h2,if_neg h3,if_neg h4,if_neg h5,if_neg h6,if_neg h7,if_neg h8]);clear HR h1 h2 h3 h4 h5 h6 h7 h8
 all_goals
  replace HC:=hid HC;go_enter Tryz.func101,Tryz.ntmps101;go_wp2_with fail;rw[←Hw1.out];refine HC.out.mono ?_;clear HC;first
   |rintro e w2 ⟨x1,x2,x3,x4,x5,y1,y2,y3,y4,y5,rfl,hr,hG2⟩
   |rintro e w2 ⟨x1,x2,x3,x4,x5,y1,y2,y3,y4,y5,k1,k2,k3,k4,k5,rfl,hr,hG2⟩
  have hs1:w.heap.size+1+1+1<w1.heap.size:=bZ.lt;replace bZ:=bZ.grow hG2;replace hG:=hG.trans hG2;clear a0 a1 a2 b0 b1 b2 hltA hltB bA bB;obtain ⟨w3,hw3,hG3,bX, -, -⟩:=al2 w2 #[Yv Yi x1,Yv Yi x2, .slice x3 x4 x5] 34 #[Yv Yi y1,Yv Yi y2, .slice y3 y4 y5] 34;replace bZ:=bZ.grow hG3;replace hG:=hG.trans hG3;have Hr:=hid fun r h=>(hr r h).grow hG3;rw[hw3] at bX bZ hG Hr;clear hr hw3 hG3 hG2
  try
   have hG4:=(Grow.refl ((w2.alloc (.cells #[Yv Yi x1,Yv Yi x2, .slice x3 x4 x5] 34)).alloc (.cells #[Yv Yi y1,Yv Yi y2, .slice y3 y4 y5] 34))).alloc #[Yv Yi k1,Yv Yi k2, .slice k3 k4 k5] 34;replace bX:=bX.grow hG4;replace bZ:=bZ.grow hG4;replace hG:=hG.trans hG4;replace Hr:=hid fun r h=>(Hr.out r h).grow hG4;clear hG4
  obtain ⟨⟨e0,e1,e2⟩, -⟩:=bX.three;have hltX:=bX.lt;have hle:w.heap.size<=w.heap.size+1+1+1:=by omega
  have hKs: ∀ (u:World) x y z,Keep (fun q=>q≠w.heap.size+1+1+1) u (((u.setCell ⟨w.heap.size+1+1+1,0,none⟩ x).setCell ⟨w.heap.size+1+1+1,1,none⟩ y).setCell ⟨w.heap.size+1+1+1,2,none⟩ z):=fun u x y z=>
   (((Keep.refl _ u).setCell (fun _ e=>e rfl) _).setCell (fun _ e=>e rfl) _).setCell (fun _ e=>e rfl) _
  have HKs:=hid hKs;clear hKs;obtain ⟨⟨z0,z1,z2⟩,g0,g1,g2⟩:=bZ.three;have hltZ:=bZ.lt;go_wp2;exact Zd Zc rfl rfl rfl (((bZ.set 0 _).set 1 _).set 2 _) ⟨_,_,_,_,_,by rw[HE.out];rfl,fun m hm=>by rw[HE.out] at hm;exact ((Hr.out m hm).keep (HKs.out _ _ _ _) (fun g _ hg=>by omega)).weak fun q _ hq=>by omega,((hG.setCell hle _).setCell hle _).setCell hle _⟩
theorem Zr3 (h:ZfD m=some r):bdM r<=1048576:=by
 unfold ZfD at h;split at h
 ·obtain ⟨R,C,hmr,hmc,hR,hC,hl,hnum⟩:=Zn (by assumption);rw[hmr,hmc,Int.toNat_natCast,Int.toNat_natCast] at h;cases hs:Zb7 m.cells R C with
  |none=>rw[hs] at h;cases h
  |some s=>rw[hs,Option.map_some] at h;rw[←Option.some.inj h];have h1:=(Zdf hl hnum hs).1.la;have h2:R*C<=24*24:=Nat.mul_le_mul hR hC;unfold bdM;simp only;omega
 ·cases h
theorem Zrt (h:Zfs m=some r):bdM r<=1048576:=by
 unfold Zfs at h;split at h
 ·obtain ⟨R,C,hmr,hmc,hR,hC,hl,hnum⟩:=Zn (by assumption);rw[hmr,hmc,Int.toNat_natCast,Int.toNat_natCast] at h;cases hs:ZcM m.cells R C with
  |none=>rw[hs] at h;cases h
  |some s=>rw[hs,Option.map_some] at h;rw[←Option.some.inj h];have h1:=(Zi7 hl hnum hs).la;have h2:R*C<=24*24:=Nat.mul_le_mul hR hC;unfold bdM;simp only;omega
 ·cases h
theorem ZqA (m:Mat):bdM (ZcF m)<=1048576:=by
 unfold ZcF;split
 ·split
  ·exact Zgn _ _
  ·simp[bdM]
 ·simp[bdM]
theorem Zst {op:Int} {a b:Mat} (h:opF op a b=some r):bdM r<=1048576:=by
 unfold opF at h;split at h
 ·rw[Zdw h];unfold amB;split;exact Nat.le_trans ZsC (by decide);simp[bdM]
 split at h
 ·rw[Zdw h];exact Zgn _ _
 split at h
 ·rw[Zdw h];exact Zl6 _
 split at h
 ·rw[Zdw h];simp[bdM]
 split at h
 ·exact Zr3 h
 split at h
 ·exact Zrt h
 split at h
 ·rw[Zdw h];have:=ZrO a;omega
 split at h
 ·rw[Zdw h];exact Zl8 _
 ·rw[Zdw h];exact ZqA _

end Go.Proofs.YtjpcgofidijigaaGreatDoor
