/- []Def: definitions, read and owned. -/
import Derived.Test.YtgeoehnbpkediaaGreatZIsMat
set_option maxHeartbeats 8000000
set_option maxRecDepth 100000
namespace Go.Proofs.YtgeoehnbpkediaaGreat
open Go.RowKit
open Lib (hid)
open Go.Value renaming int->Yv
open Go.IntKind renaming i64->Yi
variable {F S T:Nat->Prop} {P:Program} {cap g k n o:Nat} {e t ty:TypeId} {left:Int} {p:Addr} {s u v:Value} {ss:List Value} {w w':World}
structure Dfn where
 name:ByteArray
 op:Int
 a:ByteArray
 b:ByteArray
 value:Mat
variable {L l:List Dfn} {d:Dfn}
def Zab (d:Dfn) (s:Value):List Value:=[.string d.name,Yv Yi d.op, .string d.a, .string d.b,Yv Yi d.value.rows,Yv Yi d.value.cols,s]
def Zao:List Dfn->List Value->List Value
 |d::l,s::ss=>Zab d s++Zao l ss
 |_,_=>[]
theorem Zd5: ∀ {l:List Dfn} {ss:List Value},ss.length=l.length->(Zao l ss).length=l.length*7
 |[],[],_=>rfl
 |[],_::_,h=>by simp at h
 |_::_,[],h=>by simp at h
 |d::l,s::ss,h=>by simp only[Zao,List.length_append,Zd5 (l:=l) (ss:=ss) (by simpa using h),Zab,List.length_cons,List.length_nil];omega
theorem ZdF: ∀ {l:List Dfn} {ss:List Value} {k j:Nat} {d:Dfn} {s:Value},l[k]? =some d->ss[k]? =some s->j<7->(Zao l ss)[k*7+j]? =(Zab d s)[j]?
 |[],_,k,j,d,s,h,_,_=>by simp at h
 |_::_,[],k,j,d,s,_,h,_=>by simp at h
 |d'::l,s'::ss,0,j,d,s,h,h',hj=>by simp at h h';subst h;subst h';simp only[Zao];rw[List.getElem?_append_left (by simp[Zab];omega)];simp
 |d'::l,s'::ss,k+1,j,d,s,h,h',hj=>by simp only[Zao];rw[List.getElem?_append_right (by simp[Zab];omega),show (k+1)*7+j-(Zab d' s').length=k*7+j from by simp[Zab];omega];exact ZdF (by simpa using h) (by simpa using h') hj
theorem Zh3: ∀ {l r:List Dfn} {ss tt:List Value},ss.length=l.length->Zao (l++r) (ss++tt)=Zao l ss++Zao r tt
 |[],r,[],tt,_=>rfl
 |[],_,_::_,_,h=>by simp at h
 |_::_,_,[],_,h=>by simp at h
 |d::l,r,s::ss,tt,h=>by simp[Zao,Zh3 (l:=l) (r:=r) (ss:=ss) (tt:=tt) (by simpa using h)]
theorem Zo6 (d:Dfn) (s:Value):Zao [d] [s]=Zab d s:=by simp[Zao]
theorem Zjz: ∀ {l:List Dfn} {ss:List Value} (k:Nat),ss.length=l.length->Zao (l.take k) (ss.take k)=(Zao l ss).take (k*7)
 |[],[],k,_=>by simp[Zao]
 |[],_::_,_,h=>by simp at h
 |_::_,[],_,h=>by simp at h
 |d::l,s::ss,0,h=>by simp[Zao]
 |d::l,s::ss,k+1,h=>by simp only[List.take_succ_cons,Zao,Zjz (l:=l) (ss:=ss) k (by simpa using h)];rw[List.take_append,show (k+1)*7-(Zab d s).length=k*7 from by simp[Zab];omega,List.take_of_length_le (show (Zab d s).length<=(k+1)*7 from by simp[Zab];omega)]
def DOk (d:Dfn):Prop:=d.name.size<=maxLen/\I64 d.op/\d.a.size<=maxLen/\d.b.size<=maxLen/\I64 d.value.rows/\I64 d.value.cols
def Za5 (l:List Dfn):List (List Int):=l.map (·.value.cells)
@[simp] theorem ZrS (l:List Dfn):(Za5 l).length=l.length:=by simp[Za5]
theorem Zip (h:l[k]? =some d):(Za5 l)[k]? =some d.value.cells:=by simp[Za5,h]
theorem Zg1 (l r:List Dfn):Za5 (l++r)=Za5 l++Za5 r:=by simp[Za5]
theorem ZnD (l:List Dfn) (k:Nat):Za5 (l.take k)=(Za5 l).take k:=by simp[Za5,List.map_take]
structure RdD (w:World) (S:Nat->Prop) (a:Option Addr) (n cap:Nat) (l:List Dfn):Prop where
 row: ∃ ss:List Value,ss.length=l.length/\Row w S 7 a n cap (Zao l ss)/\RdCells w S ss (Za5 l)
 len:l.length=n
 ok: ∀ d∈l,DOk d
theorem RdD.keep {a:Option Addr} (h:RdD w S a n cap l) (hk:Keep T w w') (hST: ∀ b,b<w.heap.size->S b->T b):RdD w' S a n cap l:=by
 obtain ⟨⟨ss,h0,h1,h2⟩,hl,ho⟩:=h;exact ⟨⟨ss,h0,h1.keep hk hST,h2.keep hk hST⟩,hl,ho⟩
theorem RdD.grow {a:Option Addr} (h:RdD w S a n cap l) (hk:Grow w w'):RdD w' S a n cap l:=h.keep hk fun _ _ _=>trivial
theorem RdD.weak {a:Option Addr} (h:RdD w S a n cap l) (hST: ∀ b,b<w.heap.size->S b->T b):RdD w T a n cap l:=by
 obtain ⟨⟨ss,h0,h1,h2⟩,hl,ho⟩:=h;exact ⟨⟨ss,h0,h1.weak hST,h2.weak hST⟩,hl,ho⟩
theorem RdD.cap_le {a:Option Addr} (h:RdD w S a n cap l):n<=cap/\cap<=maxLen:=by
 obtain ⟨⟨ss,h0,h1,h2⟩,hl,ho⟩:=h;exact ⟨h1.le,h1.max⟩
structure DAt (w:World) (b o:Nat) (d:Dfn) (s:Value):Prop where
 c0:w.cell? ⟨b,o,none⟩=some (.string d.name)
 c1:w.cell? ⟨b,o+1,none⟩=some (Yv Yi d.op)
 c2:w.cell? ⟨b,o+2,none⟩=some (.string d.a)
 c3:w.cell? ⟨b,o+3,none⟩=some (.string d.b)
 c4:w.cell? ⟨b,o+4,none⟩=some (Yv Yi d.value.rows)
 c5:w.cell? ⟨b,o+5,none⟩=some (Yv Yi d.value.cols)
 c6:w.cell? ⟨b,o+6,none⟩=some s
theorem DAt.keep {b:Nat} (h:DAt w b o d s) (hk:Keep S w w') (hS:S b):DAt w' b o d s:=
 ⟨hk.cell hS h.c0,hk.cell hS h.c1,hk.cell hS h.c2,hk.cell hS h.c3,hk.cell hS h.c4,hk.cell hS h.c5,hk.cell hS h.c6⟩
theorem DAt.grow {b:Nat} (h:DAt w b o d s) (hk:Grow w w'):DAt w' b o d s:=h.keep hk trivial
theorem DAt.of_blk (h:Blk w g (Zab d s).toArray t):DAt w g 0 d s:=
 ⟨h.cell 0,h.cell 1,h.cell 2,h.cell 3,h.cell 4,h.cell 5,h.cell 6⟩
theorem RdD.at {a:Option Addr} (h:RdD w S a n cap l) (hk:k<n):
  ∃ b off d a1 c1,a=some ⟨b,off,none⟩/\l[k]? =some d/\S b/\b<w.heap.size/\DAt w b (off+k*7) d (.slice a1 d.value.cells.length c1)/\RdI w S a1 d.value.cells.length c1 d.value.cells/\DOk d:=by
 obtain ⟨⟨ss,h0,h1,h2⟩,hl,ho⟩:=h;have hlt:k<l.length:=by omega
 have hk':l[k]? =some l[k]:=List.getElem?_eq_getElem hlt;obtain ⟨a1,c1,h3,h4⟩:=h2 _ _ (Zip hk');obtain ⟨b,off,ha,hS,hc⟩:=h1.addr (by
  intro e;have:=ZdF (j:=0) hk' h3 (by omega);rw[e] at this;simp[Zab] at this)
 have key: ∀ j v,j<7->(Zab l[k] (.slice a1 l[k].value.cells.length c1))[j]? =some v->w.cell? ⟨b,off+k*7+j,none⟩=some v:=fun j v hj hv=>by rw[Nat.add_assoc];exact hc _ _ (by rw[ZdF hk' h3 hj];exact hv)
 have k0:=key 0 _ (by omega) rfl;exact ⟨b,off,l[k],a1,c1,ha,hk',hS,World.block_lt_of_cell? w _ k0,⟨k0,key 1 _ (by omega) rfl,key 2 _ (by omega) rfl,key 3 _ (by omega) rfl,key 4 _ (by omega) rfl,key 5 _ (by omega) rfl,key 6 _ (by omega) rfl⟩,h4,ho _ (List.getElem_mem hlt)⟩
theorem RdD.pre {a:Option Addr} (h:RdD w S a n cap l) (hk:k<=n):RdD w S a k cap (l.take k):=by
 obtain ⟨⟨ss,h0,h1,h2⟩,hl,ho⟩:=h;refine ⟨⟨ss.take k,by simp[h0],by rw[Zjz k h0];exact h1.pre hk,fun i xs hi=> ?_⟩,by simp;omega,fun d hd=>ho d (List.mem_of_mem_take hd)⟩;rw[ZnD,List.getElem?_take] at hi;split at hi
 ·rename_i hlt;obtain ⟨b,c,h3,h4⟩:=h2 i xs hi;exact ⟨b,c,by rw[List.getElem?_take,if_pos hlt];exact h3,h4⟩
 ·cases hi
structure SepD (w:World) (F:Nat->Prop) (a:Option Addr) (n cap:Nat) (l:List Dfn):Prop where
 own: ∃ ss,Own w 30 7 a n cap (Zao l ss)/\Inner w F (blk a) ss (Za5 l)
 len:l.length=n
 ok: ∀ d∈l,DOk d
 lo: ∀ g,blk a=some g->F g
theorem SepD.keep {a:Option Addr} (h:SepD w F a n cap l) (hk:Keep T w w') (hT: ∀ b,b<w.heap.size->F b->T b):SepD w' F a n cap l:=by
 obtain ⟨⟨vs,h1,h2⟩,hl,ho,h3⟩:=h;exact ⟨⟨vs,h1.keep hk (fun g hg hlt=>hT g hlt (h3 g hg)),h2.keep hk (fun b hb hF _=>hT b hb hF)⟩,hl,ho,h3⟩
theorem SepD.grow {a:Option Addr} (h:SepD w F a n cap l) (hk:Grow w w'):SepD w' F a n cap l:=h.keep hk fun _ _ _=>trivial
theorem SepD.weak {G:Nat->Prop} {a:Option Addr} (h:SepD w F a n cap l) (hF: ∀ b,b<w.heap.size->F b->G b):SepD w G a n cap l:=by
 obtain ⟨⟨vs,h1,h2⟩,hl,ho,h3⟩:=h;exact ⟨⟨vs,h1,h2.weak fun b hb hFb hne=>⟨hF b hb hFb,hne⟩⟩,hl,ho,fun g hg=>hF g (h1.lt hg) (h3 g hg)⟩
theorem SepD.rdD {a:Option Addr} (h:SepD w F a n cap l) (hS: ∀ b,F b->S b):RdD w S a n cap l:=by
 obtain ⟨⟨vs,h1,h2⟩,hl,ho,h3⟩:=h;exact ⟨⟨vs,by have:=h2.len;simpa using this,h1.row fun g hg=>hS g (h3 g hg),h2.rdCells fun b hb _=>hS b hb⟩,hl,ho⟩
theorem Blk.seven {a b c d e f x:Value} (h:Blk w g #[a,b,c,d,e,f,x] t):
  (w.cell? ⟨g,0,none⟩=some a/\w.cell? ⟨g,1,none⟩=some b/\w.cell? ⟨g,2,none⟩=some c/\w.cell? ⟨g,3,none⟩=some d/\w.cell? ⟨g,4,none⟩=some e/\w.cell? ⟨g,5,none⟩=some f/\w.cell? ⟨g,6,none⟩=some x)/\w.frozen? ⟨g,0,none⟩=false:=
 ⟨⟨h.cell 0,h.cell 1,h.cell 2,h.cell 3,h.cell 4,h.cell 5,h.cell 6⟩,h.free 0⟩
theorem Zaw:StT Tryz.prog 30 7:=⟨_,Tryz.underlying30,by kernel_rfl⟩
theorem T_defs:SlT Tryz.prog 24 30 (.agg #[.string ⟨#[]⟩,Yv Yi 0, .string ⟨#[]⟩, .string ⟨#[]⟩,Yv Yi 0,Yv Yi 0, .slice none 0 0]) 7 96:=SlT.mk' Tryz.underlying24 (by kernel_rfl) rfl
theorem StT.load7 (h:StT P ty 7) {b:Nat} (hd:DAt w b o d s):(loadVar ty ⟨b,o,none⟩).run P w= .ok (.agg (Zab d s).toArray) w:=by
 obtain ⟨fs,hu,hi⟩:=h;obtain ⟨i,hi',hs⟩:=Option.map_eq_some_iff.1 hi;have hg:(isAgg ty).run P w= .ok true w:=by simp[isAgg,run_underlying hu]
 have hsz:(sizeOf ty).run P w= .ok 7 w:=by simp[sizeOf,typeInfo,hi',hs]
 have hl:=run_loadCells_list (P:=P) (w:=w) ⟨b,o,none⟩ (Zab d s) (fun j x hj=>by
  match j,hj with
  |0,hj=>simp[Zab] at hj;subst hj;simpa [Addr.add] using hd.c0
  |1,hj=>simp[Zab] at hj;subst hj;simpa [Addr.add] using hd.c1
  |2,hj=>simp[Zab] at hj;subst hj;simpa [Addr.add] using hd.c2
  |3,hj=>simp[Zab] at hj;subst hj;simpa [Addr.add] using hd.c3
  |4,hj=>simp[Zab] at hj;subst hj;simpa [Addr.add] using hd.c4
  |5,hj=>simp[Zab] at hj;subst hj;simpa [Addr.add] using hd.c5
  |6,hj=>simp[Zab] at hj;subst hj;simpa [Addr.add] using hd.c6
  |j+7,hj=>simp[Zab] at hj)
 simp only[show (Zab d s).length=7 from rfl] at hl;simp[loadVar,hg,hsz,hl]
theorem Zq {C:World->Prop} {o:Oper} {a:Act} {K:Act->Prop} {x:Operand} {b j:Nat} (hty:StT P ty 7) (ho:o.op= .load ty x) (hx:a.eval x= .pointer (some ⟨b,j,none⟩))
  (hv: ∀ w',C w'->DAt w' b j d s) (hk:K (a.put o.dst (.agg #[.string d.name,Yv Yi d.op, .string d.a, .string d.b,Yv Yi d.value.rows,Yv Yi d.value.cols,s]))):o.quiet P a C K:=by
 refine ⟨.agg (Zab d s).toArray,fun w hw=> ?_,hk⟩;have h:=hty.load7 (hv w hw);unfold Oper.quietAt execOp;simp[ho,hx,Instr.loadAt,Instr.sureAddr,h,Oper.quietUpon]
def VDD (w:World) (S:Nat->Prop) (v:Value) (l:List Dfn):Prop:= ∃ a n c,v= .slice a n c/\RdD w S a n c l
def ODD (w:World) (F:Nat->Prop) (v:Value) (l:List Dfn):Prop:= ∃ a n c,v= .slice a n c/\SepD w F a n c l
def VD (w:World) (S:Nat->Prop) (v:Value) (d:Dfn):Prop:= ∃ a n c,v= .agg #[.string d.name,Yv Yi d.op, .string d.a, .string d.b,Yv Yi d.value.rows,Yv Yi d.value.cols, .slice a n c]/\RdI w S a n c d.value.cells/\DOk d
def OD (w:World) (F:Nat->Prop) (v:Value) (d:Dfn):Prop:= ∃ a n c,v= .agg #[.string d.name,Yv Yi d.op, .string d.a, .string d.b,Yv Yi d.value.rows,Yv Yi d.value.cols, .slice a n c]/\Own w 3 1 a n c (ints d.value.cells)/\(∀ x∈d.value.cells,I64 x)/\(∀ g,blk a=some g->F g)/\DOk d
def bdD (d:Dfn):Nat:=d.name.size+d.a.size+d.b.size+d.value.cells.length
def ZpI (d:Dfn):Nat:=d.value.cells.length
def ZcS (l:List Dfn):Nat:=(l.map bdD).sum
def Zat (l:List Dfn):Nat:=l.length+ZcS l
@[simp] theorem ZoU:ZcS []=0:=rfl
@[simp] theorem Zhc (d:Dfn) (l:List Dfn):ZcS (d::l)=bdD d+ZcS l:=by simp[ZcS]
theorem ZfH (l r:List Dfn):ZcS (l++r)=ZcS l+ZcS r:=by simp[ZcS]
theorem ZfZ (h:l[k]? =some d):ZcS (l.take (k+1))=ZcS (l.take k)+bdD d/\ZcS (l.take k)+bdD d<=ZcS l:=by
 have h1:ZcS (l.take (k+1))=ZcS (l.take k)+bdD d:=by rw[ZC h,ZfH];simp
 refine ⟨h1, ?_⟩;rw[←h1]
 conv=>rhs;rw[←List.take_append_drop (k+1) l]
 rw[ZfH];omega
theorem VDD.keep (h:VDD w S v l) (hk:Keep T w w') (hST: ∀ b,b<w.heap.size->S b->T b):VDD w' S v l:=by
 obtain ⟨a,n,c,rfl,h⟩:=h;exact ⟨a,n,c,rfl,h.keep hk hST⟩
theorem VDD.grow (h:VDD w S v l) (hk:Grow w w'):VDD w' S v l:=h.keep hk fun _ _ _=>trivial
theorem VDD.weak (h:VDD w S v l) (hST: ∀ b,b<w.heap.size->S b->T b):VDD w T v l:=by
 obtain ⟨a,n,c,rfl,h⟩:=h;exact ⟨a,n,c,rfl,h.weak hST⟩
theorem ODD.keep (h:ODD w F v l) (hk:Keep T w w') (hT: ∀ b,b<w.heap.size->F b->T b):ODD w' F v l:=by
 obtain ⟨a,n,c,rfl,h⟩:=h;exact ⟨a,n,c,rfl,h.keep hk hT⟩
theorem ODD.grow (h:ODD w F v l) (hk:Grow w w'):ODD w' F v l:=h.keep hk fun _ _ _=>trivial
theorem ODD.rd (h:ODD w F v l) (hS: ∀ b,F b->S b):VDD w S v l:=by
 obtain ⟨a,n,c,rfl,h⟩:=h;exact ⟨a,n,c,rfl,h.rdD hS⟩
theorem VD.keep (h:VD w S v d) (hk:Keep T w w') (hST: ∀ b,b<w.heap.size->S b->T b):VD w' S v d:=by
 obtain ⟨a,n,c,rfl,h,ho⟩:=h;exact ⟨a,n,c,rfl,h.keep hk hST,ho⟩
theorem VD.grow (h:VD w S v d) (hk:Grow w w'):VD w' S v d:=h.keep hk fun _ _ _=>trivial
theorem VD.weak (h:VD w S v d) (hST: ∀ b,b<w.heap.size->S b->T b):VD w T v d:=by
 obtain ⟨a,n,c,rfl,h,ho⟩:=h;exact ⟨a,n,c,rfl,h.weak hST,ho⟩
theorem OD.keep (h:OD w F v d) (hk:Keep T w w') (hT: ∀ b,b<w.heap.size->F b->T b):OD w' F v d:=by
 obtain ⟨a,n,c,rfl,h1,h2,h3,ho⟩:=h;exact ⟨a,n,c,rfl,h1.keep hk (fun g hg hlt=>hT g hlt (h3 g hg)),h2,h3,ho⟩
theorem OD.grow (h:OD w F v d) (hk:Grow w w'):OD w' F v d:=h.keep hk fun _ _ _=>trivial
theorem OD.rd (h:OD w F v d) (hS: ∀ b,F b->S b):VD w S v d:=by
 obtain ⟨a,n,c,rfl,h1,h2,h3,ho⟩:=h;exact ⟨a,n,c,rfl,h1.rdI (fun g hg=>hS g (h3 g hg)) h2,ho⟩
def szD (left:Int) (d:Dfn):Int:=if left<bdD d then -1 else left-bdD d
def ZfE (left:Int):List Dfn->Int
 |[]=>left
 |d::r=>if left<bdD d then -1 else ZfE (left-bdD d) r
def ZgX (left:Int) (l:List Dfn):Int:=if left<l.length then -1 else ZfE (left-l.length) l
theorem ZqE {l:Dfn} (h:0<=szD left l):szD left l=left-bdD l:=by
 unfold szD at *;split at h
 ·omega
 ·rename_i h1;rw[if_neg h1]
theorem Zq9: ∀ {left:Int},0<=ZfE left l->ZfE left l=left-ZcS l:=by
 induction l with
 |nil=>intro left _;simp[ZfE]
 |cons p r ih=>
  intro left h;unfold ZfE at h ⊢;by_cases hlt:left<bdD p
  ·rw[if_pos hlt] at h;omega
  ·rw[if_neg hlt] at h ⊢;rw[ih h];simp;omega
theorem ZpA (h:0<=ZgX left l):ZgX left l=left-Zat l:=by
 unfold ZgX at h ⊢;unfold Zat;by_cases hlt:left<l.length
 ·rw[if_pos hlt] at h;omega
 ·rw[if_neg hlt] at h ⊢;have:=Zq9 h;omega
theorem Zj0 (h:l[k]? =some d) (q:Int):ZfE q (l.drop k)=if q<bdD d then -1 else ZfE (q-bdD d) (l.drop (k+1)):=by
 obtain ⟨hk,h1⟩:=List.getElem?_eq_some_iff.1 h;rw[List.drop_eq_getElem_cons hk,h1];rfl
theorem Zrz (h:VD w S v d) (h0:0<=left) (h1:left<=1048576):Calls Tryz.prog 24 #[v,Yv Yi left] w fun e w'=>e= .returned (Yv Yi (szD left d))/\Grow w w':=by
 obtain ⟨a,n,c,rfl,h,ho⟩:=h;obtain ⟨o1,o2,o3,o4,o5,o6⟩:=ho;unfold maxLen at o1 o3 o4;have hG:Grow w (w.alloc (.cells #[.string d.name,Yv Yi d.op, .string d.a, .string d.b,Yv Yi d.value.rows,Yv Yi d.value.cols, .slice a n c] 53)):=(Grow.refl w).alloc _ _;have hvm:VM (w.alloc (.cells #[.string d.name,Yv Yi d.op, .string d.a, .string d.b,Yv Yi d.value.rows,Yv Yi d.value.cols, .slice a n c] 53)) S (.agg #[Yv Yi d.value.rows,Yv Yi d.value.cols, .slice a n c]) d.value:=⟨a,n,c,rfl,h.grow hG,o5,o6⟩;by_cases q1:left<d.name.size
 ·have e:szD left d= -1:=by unfold szD bdD;rw[if_pos (by omega)]
  rw[e];go_enter Tryz.func24,Tryz.ntmps24;go_wp2;go_ret;exact ⟨rfl,hG⟩
 ·by_cases q2:left-d.name.size<d.a.size
  ·have e:szD left d= -1:=(by unfold szD bdD;rw[if_pos (by omega)]);rw[e];go_enter Tryz.func24,Tryz.ntmps24;go_wp2;go_ret;exact ⟨rfl,hG⟩
  ·by_cases q3:left-d.name.size-d.a.size<d.b.size
   ·have e:szD left d= -1:=(by unfold szD bdD;rw[if_pos (by omega)]);rw[e];go_enter Tryz.func24,Tryz.ntmps24;go_wp2;go_ret;exact ⟨rfl,hG⟩
   ·by_cases q4:left-d.name.size-d.a.size-d.b.size<d.value.cells.length
    ·have e:szD left d= -1:=(by unfold szD bdD;rw[if_pos (by omega)]);have e2:szM (left-d.name.size-d.a.size-d.b.size) d.value= -1:=(by unfold szM szI;rw[if_pos q4]);rw[e];go_enter Tryz.func24,Tryz.ntmps24;go_wp2_with fail;refine (ZnB hvm (by omega) (by omega)).mono ?_;rintro e w' ⟨rfl,hG2⟩;rw[e2];go_wp2;go_ret;exact ⟨rfl,hG.trans hG2⟩
    ·have e:szD left d=left-d.name.size-d.a.size-d.b.size-d.value.cells.length:=(by unfold szD bdD;rw[if_neg (by omega)];omega);have e2:szM (left-d.name.size-d.a.size-d.b.size) d.value=left-d.name.size-d.a.size-d.b.size-d.value.cells.length:=(by unfold szM szI;rw[if_neg q4]);rw[e];go_enter Tryz.func24,Tryz.ntmps24;go_wp2_with fail;refine (ZnB hvm (by omega) (by omega)).mono ?_;rintro e w' ⟨rfl,hG2⟩;rw[e2];go_wp2;go_ret;exact ⟨rfl,hG.trans hG2⟩
theorem ZrN (h:VDD w S v l) (h0:0<=left) (h1:left<=1048576):Calls Tryz.prog 15 #[v,Yv Yi left] w fun e w'=>e= .returned (Yv Yi (ZgX left l))/\Grow w w':=by
 obtain ⟨a,n,cap,rfl,h⟩:=h;have hl:=h.len;have hmax:n<=9223372036854775807:=by have h2:=h.cap_le;simp only[maxLen] at h2;omega
 by_cases hlt0:left<n
 ·go_enter Tryz.func15,Tryz.ntmps15;go_wp2;all_goals (go_ret;exact ⟨Zz (by unfold ZgX;rw[if_pos (by omega)]),Grow.refl _⟩)
 ·skip
  go_enter Tryz.func15,Tryz.ntmps15;go_wp2;go_loopw [1,5] (fun q i wr=>Grow w wr/\ ∃ (k:Nat) (l':Int),k<=n/\i=Yv Yi k/\q=Yv Yi l'/\0<=l'/\l'<=1048576/\ZfE l' (l.drop k)=ZgX left l) (fun _ i _=>n-(intOf i).toNat);case atStart=>exact ⟨Grow.refl _,0,left-n,Nat.zero_le _,rfl,rfl,by omega,by omega,by unfold ZgX;rw[if_neg (by omega),hl];rfl⟩
  case round=>
   obtain ⟨hG,k,q,hk,rfl,rfl,hl0,hl1,he⟩:=hrel;have He:=hid he;clear he;by_cases hlt:k<n
   ·obtain ⟨b,off,d,a1,c1,rfl,hx,_,hbw,⟨e0,e1,e2,e3,e4,e5,e6⟩,r1,ho⟩:=(h.grow hG).at hlt;have Hx:=hid hx;clear hx;go_wp2_with fail;refine (Zrz (d:=d) (left:=q) ⟨_,_,_,rfl,r1,ho⟩ hl0 hl1).mono ?_;rintro e w1 ⟨rfl,hG1⟩;unfold szD;by_cases hlt2:q<bdD d
    ·rw[if_pos hlt2];go_wp2;go_ret;exact ⟨Zz (by rw[←He.out,Zj0 Hx.out,if_pos hlt2]),hG.trans hG1⟩
    ·rw[if_neg hlt2];go_wp2;go_roundw;case rel=>exact ⟨hG.trans hG1,k+1,q-bdD d,by omega,by go_num,rfl,by omega,by omega,by rw[←He.out,Zj0 Hx.out,if_neg (by omega)]⟩
     case measure=>simp[intOf];omega
   ·go_wp2;go_ret;have:k=n:=(by omega);subst this;refine ⟨Zz ?_,hG⟩;rw[←He.out, ←hl];simp[ZfE]
theorem Zf3:StT Tryz.prog 53 7:=⟨_,Tryz.underlying53,by kernel_rfl⟩
theorem ZlY (h:VD w S v d) (hb:bdD d<=1048576):Calls Tryz.prog 26 #[v] w fun e w'=> ∃ v',e= .returned v'/\OD w' (New w w') v' d/\Grow w w':=by
 obtain ⟨a,n,c,rfl,h,ho⟩:=h;unfold bdD at hb;obtain ⟨o1,o2,o3,o4,o5,o6⟩:=ho;obtain ⟨w0,hw0,hG0, -, -, -, -⟩:=al3 w #[.string d.name,Yv Yi d.op, .string d.a, .string d.b,Yv Yi d.value.rows,Yv Yi d.value.cols, .slice a n c] 53 #[.string ⟨#[]⟩,Yv Yi 0, .string ⟨#[]⟩, .string ⟨#[]⟩,Yv Yi 0,Yv Yi 0, .slice none 0 0] 30 #[.string d.name,Yv Yi d.op, .string d.a, .string d.b,Yv Yi 0,Yv Yi 0, .slice none 0 0] 30;have hs0:w0.heap.size=w.heap.size+3:=by rw[hw0];simp
 have b2:Blk w0 (w.heap.size+1) #[.string ⟨#[]⟩,Yv Yi 0, .string ⟨#[]⟩, .string ⟨#[]⟩,Yv Yi 0,Yv Yi 0, .slice none 0 0] 30:=by rw[hw0];exact (Blk.newAt _ _ _ (by simp)).alloc _
 have b3:Blk w0 (w.heap.size+1+1) #[.string d.name,Yv Yi d.op, .string d.a, .string d.b,Yv Yi 0,Yv Yi 0, .slice none 0 0] 30:=by rw[hw0];exact Blk.newAt _ _ _ (by simp)
 have hvm:VM w0 S (.agg #[Yv Yi d.value.rows,Yv Yi d.value.cols, .slice a n c]) d.value:=⟨a,n,c,rfl,h.grow hG0,o5,o6⟩;have Hw0:=hid hw0;clear hw0;go_enter Tryz.func26,Tryz.ntmps26;go_wp2_with fail;rw[←Hw0.out];refine (Zrj hvm (by unfold bdM;omega)).mono ?_;rintro e w1 ⟨v',rfl,⟨am,nm,cm,rfl,om,xm,fm,rm,km⟩,hG1⟩;have hs1:=hG1.size;have B2:=b2.grow hG1;have B3:=b3.grow hG1;have p0:=B3.cell 0;have p1:=B3.cell 1;have p2:=B3.cell 2;have p3:=B3.cell 3;have p4:=B3.cell 4;have p5:=B3.cell 5;have p6:=B3.cell 6;have f4:=B3.free 4;have f5:=B3.free 5;have f6:=B3.free 6;have q0:=B2.cell 0;have q1:=B2.cell 1;have q2:=B2.cell 2;have q3:=B2.cell 3;have q4:=B2.cell 4;have q5:=B2.cell 5;have q6:=B2.cell 6;have g0:=B2.free 0;have g1:=B2.free 1;have g2:=B2.free 2;have g3:=B2.free 3;have g4:=B2.free 4;have g5:=B2.free 5;have g6:=B2.free 6;simp at p0 p1 p2 p3 p4 p5 p6 q0 q1 q2 q3 q4 q5 q6;go_wp2;have hBf:=((((((((((B2.other (p:=⟨w.heap.size+1+1,4,none⟩) (by simp) (Yv Yi d.value.rows)).other (p:=⟨w.heap.size+1+1,5,none⟩) (by simp) (Yv Yi d.value.cols)).other (p:=⟨w.heap.size+1+1,6,none⟩) (by simp) (.slice am nm cm)).set 0 (.string d.name)).set 1 (Yv Yi d.op)).set 2 (.string d.a)).set 3 (.string d.b)).set 4 (Yv Yi d.value.rows)).set 5 (Yv Yi d.value.cols)).set 6 (.slice am nm cm));have hK:Keep (fun g=>g≠w.heap.size+1+1/\g≠w.heap.size+1) w1 _:=(((((((((((Keep.refl _ w1).setCell (p:=⟨w.heap.size+1+1,4,none⟩) (by simp) (Yv Yi d.value.rows)).setCell (p:=⟨w.heap.size+1+1,5,none⟩) (by simp) (Yv Yi d.value.cols)).setCell (p:=⟨w.heap.size+1+1,6,none⟩) (by simp) (.slice am nm cm)).setCell (p:=⟨w.heap.size+1,0,none⟩) (by simp) (.string d.name)).setCell (p:=⟨w.heap.size+1,1,none⟩) (by simp) (Yv Yi d.op)).setCell (p:=⟨w.heap.size+1,2,none⟩) (by simp) (.string d.a)).setCell (p:=⟨w.heap.size+1,3,none⟩) (by simp) (.string d.b)).setCell (p:=⟨w.heap.size+1,4,none⟩) (by simp) (Yv Yi d.value.rows)).setCell (p:=⟨w.heap.size+1,5,none⟩) (by simp) (Yv Yi d.value.cols)).setCell (p:=⟨w.heap.size+1,6,none⟩) (by simp) (.slice am nm cm));have hom:=om.keep hK (fun g hg _=>by have:=fm g hg;simp only[New] at this;omega);refine ZE Zaw rfl rfl rfl hBf ⟨_,rfl,⟨am,nm,cm,rfl,hom,xm,fun g hg=>⟨by have:=fm g hg;simp only[New] at this;omega,hom.lt hg⟩,o1,o2,o3,o4,o5,o6⟩,(hG0.trans hG1).keep hK (fun i hi=>by omega)⟩
theorem Zrw (h:VD w S u d) (h':VD w T v d) (hb:bdD d<=2097152):Calls Tryz.prog 27 #[u,v] w fun e w'=>e= .returned (.bool true)/\Grow w w':=by
 obtain ⟨a,n,c,rfl,h,ho⟩:=h;obtain ⟨a',n',c',rfl,h',_⟩:=h';obtain ⟨o1,o2,o3,o4,o5,o6⟩:=ho;unfold bdD at hb;have e1:(d.op==d.op)=true:=by simp
 have e2:(d.op !=d.op)=false:=by simp
 have hG0:Grow w ((w.alloc (.cells #[.string d.name,Yv Yi d.op, .string d.a, .string d.b,Yv Yi d.value.rows,Yv Yi d.value.cols, .slice a n c] 30)).alloc (.cells #[.string d.name,Yv Yi d.op, .string d.a, .string d.b,Yv Yi d.value.rows,Yv Yi d.value.cols, .slice a' n' c'] 30)):=((Grow.refl w).alloc _ _).alloc _ _;have hvm:VM _ S (.agg #[Yv Yi d.value.rows,Yv Yi d.value.cols, .slice a n c]) d.value:=⟨a,n,c,rfl,h.grow hG0,o5,o6⟩;have hvm':VM _ T (.agg #[Yv Yi d.value.rows,Yv Yi d.value.cols, .slice a' n' c']) d.value:=⟨a',n',c',rfl,h'.grow hG0,o5,o6⟩;go_enter Tryz.func27,Tryz.ntmps27;go_wp2_with fail;refine (Zrk hvm hvm' (by unfold bdM;omega)).mono ?_;rintro e w1 ⟨rfl,hG1⟩;go_wp2;go_ret;exact ⟨rfl,hG0.trans hG1⟩
def ZlV:Dfn:=⟨⟨#[]⟩,0,⟨#[]⟩,⟨#[]⟩,⟨0,0,[]⟩⟩
def dset (l:List Value) (o:Nat) (d:Dfn) (s:Value):List Value:=
 (((((((l.set o (.string d.name)).set (o+1) (Yv Yi d.op)).set (o+2) (.string d.a)).set (o+3) (.string d.b)).set (o+4) (Yv Yi d.value.rows)).set (o+5) (Yv Yi d.value.cols)).set (o+6) s)
theorem Zma {l r:List Value} (h:l.length<=o):dset (l++r) o d s=l++dset r (o-l.length) d s:=by
 unfold dset;rw[List.set_append_right _ _ (by omega),List.set_append_right _ _ (by omega),List.set_append_right _ _ (by omega),List.set_append_right _ _ (by omega),List.set_append_right _ _ (by omega),List.set_append_right _ _ (by omega),List.set_append_right _ _ (by omega)];rw[show o+1-l.length=o-l.length+1 from by omega,show o+2-l.length=o-l.length+2 from by omega,show o+3-l.length=o-l.length+3 from by omega,show o+4-l.length=o-l.length+4 from by omega,show o+5-l.length=o-l.length+5 from by omega,show o+6-l.length=o-l.length+6 from by omega]
theorem Zii: ∀ {l:List Dfn} {ss:List Value} {k:Nat} {d:Dfn} {s:Value},ss.length=l.length->k<l.length->dset (Zao l ss) (k*7) d s=Zao (l.set k d) (ss.set k s)
 |[],_,k,d,s,_,h=>by simp at h
 |_::_,[],k,d,s,h,_=>by simp at h
 |d'::l,s'::ss,0,d,s,h,_=>by simp only[Zao,Zab,List.set_cons_zero,Nat.zero_mul,dset,List.cons_append,List.set_cons_succ,Nat.zero_add,List.nil_append]
 |d'::l,s'::ss,k+1,d,s,h,hk=>by simp only[Zao,List.set_cons_succ];have hl:(Zab d' s').length=7:=rfl;rw[Zma (by rw[hl];omega),hl,show (k+1)*7-7=k*7 from by omega,Zii (by simpa using h) (by simpa using hk)]
theorem Zkt (n:Nat):(madeCells #[Value.string ⟨#[]⟩,Yv Yi 0, .string ⟨#[]⟩, .string ⟨#[]⟩,Yv Yi 0,Yv Yi 0, .slice none 0 0] (n*7)).toList=Zao (List.replicate n ZlV) (List.replicate n (.slice none 0 0)):=by
 refine List.ext_getElem? fun i=> ?_;by_cases hi:i<n*7
 ·obtain ⟨k,j,hj,rfl⟩: ∃ k j,j<7/\i=k*7+j:=⟨i/7,i%7,Nat.mod_lt _ (by omega),by omega⟩;have hk:k<n:=by omega
  rw[ZdF (d:=ZlV) (s:= .slice none 0 0) (by simp[hk]) (by simp[hk]) hj];have e:(k*7+j)%7=j:=by omega
  unfold madeCells;simp only[Array.toList_map,Array.toList_range,List.getElem?_map,List.getElem?_range hi,Option.map_some];simp only[show (#[Value.string ⟨#[]⟩,Yv Yi 0, .string ⟨#[]⟩, .string ⟨#[]⟩,Yv Yi 0,Yv Yi 0, .slice none 0 0]:Array Value).size=7 from rfl,e]
  match j,hj with
  |0,_=>rfl
  |1,_=>rfl
  |2,_=>rfl
  |3,_=>rfl
  |4,_=>rfl
  |5,_=>rfl
  |6,_=>rfl
 ·rw[List.getElem?_eq_none (by simp[madeCells];omega),List.getElem?_eq_none (by rw[Zd5 (by simp)];simp;omega)]
theorem Own.dat (h:Own w e 7 (some p) n cap (Zao L ss)) (hd:L[k]? =some d) (hs:ss[k]? =some s):DAt w p.block (k*7) d s:=by
 have key: ∀ j v,j<7->(Zab d s)[j]? =some v->w.cell? ⟨p.block,k*7+j,none⟩=some v:=fun j v hj hv=>h.cell (by rw[ZdF hd hs hj];exact hv);exact ⟨key 0 _ (by omega) rfl,key 1 _ (by omega) rfl,key 2 _ (by omega) rfl,key 3 _ (by omega) rfl,key 4 _ (by omega) rfl,key 5 _ (by omega) rfl,key 6 _ (by omega) rfl⟩
theorem Own.dset (h:Own w e 7 (some p) n cap (Zao L ss)) (hl:ss.length=L.length) (hk:k<L.length):
  Own (((((((w.setCell ⟨p.block,k*7,none⟩ (.string d.name)).setCell ⟨p.block,k*7+1,none⟩ (Yv Yi d.op)).setCell ⟨p.block,k*7+2,none⟩ (.string d.a)).setCell ⟨p.block,k*7+3,none⟩ (.string d.b)).setCell ⟨p.block,k*7+4,none⟩ (Yv Yi d.value.rows)).setCell ⟨p.block,k*7+5,none⟩ (Yv Yi d.value.cols)).setCell ⟨p.block,k*7+6,none⟩ s) e 7 (some p) n cap (Zao (L.set k d) (ss.set k s)):=by
 rw[←Zii hl hk];exact ((((((h.set _ _).set _ _).set _ _).set _ _).set _ _).set _ _).set _ _
theorem Zky (h:VDD w S v l) (hb:Zat l<=1048576):Calls Tryz.prog 17 #[v] w fun e w'=> ∃ v',e= .returned v'/\ODD w' (New w w') v' l/\Grow w w':=by
 obtain ⟨a,n,cap,rfl,h⟩:=h;have hl:=h.len;unfold Zat at hb;have hn:n<=1048576:=by omega
 have hmk:=T_defs.make (n:=n) (by omega) (by unfold maxLen;omega);have Hl:=hid hl;clear hl;go_enter Tryz.func17,Tryz.ntmps17;go_wp2;go_loopw [4] (fun i wr=> ∃ (k:Nat) (ss:List Value),k<=n/\i=Yv Yi k/\Grow w wr/\ss.length=k/\w.heap.size<wr.heap.size/\Own wr 30 7 (some ⟨w.heap.size,0,none⟩) n n (Zao (l.take k++List.replicate (n-k) ZlV) (ss++List.replicate (n-k) (.slice none 0 0)))/\Inner wr (New w wr) (some w.heap.size) ss (Za5 (l.take k))) (fun i _=>n-(intOf i).toNat);case atStart=>refine ⟨0,[],Nat.zero_le _,rfl,(Grow.refl w).alloc _ _,rfl,by simp, ?_,Inner.nilw⟩;have:=Own.fresh (w:=w) (e:=30) (sz:=7) (cs:=madeCells #[.string ⟨#[]⟩,Yv Yi 0, .string ⟨#[]⟩, .string ⟨#[]⟩,Yv Yi 0,Yv Yi 0, .slice none 0 0] (n*7)) (n:=n) (by unfold maxLen;omega) (by simp[madeCells]);rw[Zkt] at this;simpa using this
 case round=>
  obtain ⟨k,ss,hk,rfl,hG,hvl,hsz,hO,hI⟩:=hrel;have Hvl:=hid hvl;clear hvl;by_cases hlt:k<n
  ·obtain ⟨b,off,d,a1,c1,rfl,hx,_,hbw,⟨e0,e1,e2,e3,e4,e5,e6⟩,r1,ho⟩:=(h.grow hG).at hlt;have htot:=(ZfZ hx).2;have Hx:=hid hx;clear hx;go_wp2_with fail;refine (ZlY (d:=d) ⟨_,_,_,rfl,r1,ho⟩ (by omega)).mono ?_;rintro e w1 ⟨v',rfl,⟨am,nm,cm,rfl,om,xm,fm,hok⟩,hG1⟩;have hnm:d.value.cells.length=nm:=(by simpa using om.len);subst hnm;have hs1:=hG1.size;have hO':=hO.grow hG1;have hI':=hI.grow hG1;have hlk:(l.take k).length=k:=(by simp;have:=Hl.out;omega);have hz1:(l.take k++List.replicate (n-k) ZlV)[k]? =some ZlV:=ZfX hlk hlt;have hz2:=ZfX (z:=Value.slice none 0 0) Hvl.out hlt;obtain ⟨g0,g1,g2,g3,g4,g5,g6⟩:=hO'.dat hz1 hz2;have f0:=hO'.free (k*7);have f1:=hO'.free (k*7+1);have f2:=hO'.free (k*7+2);have f3:=hO'.free (k*7+3);have f4:=hO'.free (k*7+4);have f5:=hO'.free (k*7+5);have f6:=hO'.free (k*7+6);simp only at f0 f1 f2 f3 f4 f5 f6 g0 g1 g2 g3 g4 g5 g6;have Hlk:=hid hlk;clear hz1 hz2 hlk;go_wp2;go_roundw;case rel=>
    have hO2:=hO'.dset (k:=k) (d:=d) (s:= .slice am d.value.cells.length cm) (by simp[Hvl.out,Hlk.out]) (by simp[Hlk.out];omega);rw[Zfh Hlk.out hlt,Zfh Hvl.out hlt, ←ZC Hx.out] at hO2;have hw':Keep (fun q=>q≠w.heap.size) w1 _:=(((((((Keep.refl _ w1).setCell (p:=⟨w.heap.size,k*7,none⟩) (fun _ e=>e rfl) (.string d.name)).setCell (p:=⟨w.heap.size,k*7+1,none⟩) (fun _ e=>e rfl) (Yv Yi d.op)).setCell (p:=⟨w.heap.size,k*7+2,none⟩) (fun _ e=>e rfl) (.string d.a)).setCell (p:=⟨w.heap.size,k*7+3,none⟩) (fun _ e=>e rfl) (.string d.b)).setCell (p:=⟨w.heap.size,k*7+4,none⟩) (fun _ e=>e rfl) (Yv Yi d.value.rows)).setCell (p:=⟨w.heap.size,k*7+5,none⟩) (fun _ e=>e rfl) (Yv Yi d.value.cols)).setCell (p:=⟨w.heap.size,k*7+6,none⟩) (fun _ e=>e rfl) (.slice am d.value.cells.length cm)
    have h1:=(hI'.weak (G:=New w w1) (g':=some w.heap.size) fun b hb hF hne=>⟨⟨hF.1,by have:=hF.2;omega⟩,hne⟩).snoc om xm (fun q hq=>⟨⟨by have:=(fm q hq).1;omega,om.lt hq⟩,by have:=(fm q hq).1;intro e;simp at e;omega⟩)
     (fun q hq v hv hvq=>by have:=(hI.lt hv hvq).1;have:=(fm q hq).1;omega)
    refine ⟨k+1,ss++[.slice am d.value.cells.length cm],by omega,by go_num,(hG.trans hG1).keep hw' (fun i hi=>by omega),by simp[Hvl.out],by simp;omega,hO2, ?_⟩;rw[ZC Hx.out,Zg1];exact (h1.keep hw' (fun b _ _ hne e=>hne (by rw[e]))).weak fun b hb hF hne=>⟨⟨hF.1,by simpa using hF.2⟩,hne⟩
   case measure=>simp[intOf];omega
  ·go_wp2;go_ret;have:k=n:=(by omega);subst this;rw[ZI Hl.out,Nat.sub_self] at hO;rw[ZI Hl.out] at hI;refine ⟨_,rfl,⟨_,_,_,rfl,⟨⟨ss,by simpa using hO,hI⟩,Hl.out,h.ok,fun g hg=> ?_⟩⟩,hG⟩;simp at hg;subst hg;exact ⟨Nat.le_refl _,hsz⟩
theorem ZkA (h:VDD w S u l) (h':VDD w T v l) (hb:Zat l<=2097152):Calls Tryz.prog 19 #[u,v] w fun e w'=>e= .returned (.bool true)/\Grow w w':=by
 obtain ⟨a,n,c,rfl,h⟩:=h;obtain ⟨a',n',c',rfl,h'⟩:=h';have hl:=h.len;have hl':=h'.len;have hnn:n=n':=by omega
 subst hnn;clear hl';unfold Zat at hb;have hn:n<=2097152:=by omega
 have Hl:=hid hl;clear hl;go_enter Tryz.func19,Tryz.ntmps19;go_wp2;go_loopw [5] (fun i wr=>Grow w wr/\ ∃ k:Nat,k<=n/\i=Yv Yi k) (fun i _=>n-(intOf i).toNat);case atStart=>exact ⟨Grow.refl _,0,Nat.zero_le _,rfl⟩
 case round=>
  obtain ⟨hG,k,hk,rfl⟩:=hrel;by_cases hlt:k<n
  ·obtain ⟨b,off,d,a1,c1,rfl,hx,_,hbw,hd1,r1,ho⟩:=(h.grow hG).at hlt;obtain ⟨b',off',d',a1',c1',rfl,hx',_,hbw',hd1',r1',ho'⟩:=(h'.grow hG).at hlt;obtain rfl:d=d':=Option.some.inj (hx.symm.trans hx');have htot:=(ZfZ hx).2;clear hx hx';go_wp2;refine Zc (S:=Grow wr) [([0,1,2,3,4,5,6,7],some 8),([9],none)] Zj (by kernel_rfl) (fun _ _ _ _ _ h=>h) (Grow.refl _).drew ?_;show wpQuiet _ _ _ _ [_,_,_,_,_,_,_,_] _;(repeat (first |go_big_quiet_skip|(go_big_quiet_want;first |(apply Zq Zaw;rfl;rfl;exact (fun w' hG=>hd1.grow hG);go_big_quiet_on;simp only[putP])|(apply Zq Zaw;rfl;rfl;exact (fun w' hG=>hd1'.grow hG);go_big_quiet_on;simp only[putP])|(go_big_quiet_op;first |go_big_quiet_on|(refine ⟨_,(fun _ _=>rfl), ?_⟩;go_big_quiet_on)))));refine wpQuiet_nil ?_;refine Ze rfl (fun K hK=> ?_);go_wp2_with fail;refine (Zrw (d:=d) ⟨_,_,_,rfl,r1.grow (Grow.refl _).drew,ho⟩ ⟨_,_,_,rfl,r1'.grow (Grow.refl _).drew,ho⟩ (by omega)).mono ?_;rintro e w1 ⟨rfl,hG1⟩;have hG2:Grow wr w1:=(Grow.refl wr).drew.trans hG1;go_wp2_with fail;refine hK _ _ (hG2) ?_;clear hK K;show wpQuiet _ _ _ _ [_] _;(try (conv=>arg 6;simp only[putP]));(repeat (first |go_big_quiet_skip|(go_big_quiet_want;first |(apply Zq Zaw;rfl;rfl;exact (fun w' hG=>hd1.grow hG);go_big_quiet_on;simp only[putP])|(apply Zq Zaw;rfl;rfl;exact (fun w' hG=>hd1'.grow hG);go_big_quiet_on;simp only[putP])|(go_big_quiet_op;first |go_big_quiet_on|(refine ⟨_,(fun _ _=>rfl), ?_⟩;go_big_quiet_on)))));refine wpQuiet_nil ?_;refine Zh ?_;go_wp2;go_roundw;case rel=>exact ⟨hG.trans hG2,k+1,by omega,by go_num⟩
   case measure=>simp[intOf];omega
  ·go_wp2;go_ret;exact ⟨rfl,hG⟩
def Zk (l:List Dfn) (s:ByteArray):Int:=firstIdx (fun d=>d.name.toList==s.toList) l
theorem Zbb (a:Option Addr) (n cap:Nat) (l:List Dfn) (s:ByteArray) (w:World) (h:RdD w S a n cap l) (hn:n<=2097152):
  Calls Tryz.prog 40 #[.slice a n cap, .string s] w fun e w'=>e= .returned (Yv Yi (Zk l s))/\w=w':=by
 have Hl:=hid h.len;go_enter Tryz.func40,Tryz.ntmps40;go_wp2;go_loop [5] (fun i=> ∃ k:Nat,k<=n/\i=Yv Yi k/\ ∀ d∈l.take k,(d.name.toList==s.toList)=false) (fun i=>n-(intOf i).toNat);case atStart=>exact ⟨0,Nat.zero_le _,rfl,by simp⟩
 case round=>
  obtain ⟨k,hk,rfl,he⟩:=hrel;have He:=hid he;clear he;by_cases hlt:k<n
  ·obtain ⟨b,off,d,a1,c1,rfl,hx,_,hbw,⟨e0, -, -, -, -, -, -⟩, -, -⟩:=h.at hlt;have Hx:=hid hx;clear hx;cases hd:d.name.toList==s.toList with
   |true=>go_wp2;go_ret;exact ⟨Zz (ZcL He.out Hx.out hd).symm,rfl⟩
   |false=>
    go_wp2
    go_round
    case rel=>
     refine ⟨k+1,by omega,by go_num,fun z hz=> ?_⟩;rw[ZC Hx.out,List.mem_append,List.mem_singleton] at hz;rcases hz with hz|rfl
     ·exact He.out z hz
     ·exact hd
    case measure=>simp[intOf];omega
  ·go_wp2;go_ret;have:k=n:=(by omega);subst this;have:=He.out;rw[ZI Hl.out] at this;exact ⟨Zz (Zex this).symm,rfl⟩
theorem Zkm (s:ByteArray) (d:Dfn) (sv:Value) (g:Nat) (w:World) (hg:w.cell? ⟨g,0,none⟩=some (.string s)):
  Calls Tryz.prog 69 #[.agg #[.string d.name,Yv Yi d.op, .string d.a, .string d.b,Yv Yi d.value.rows,Yv Yi d.value.cols,sv], .pointer (some ⟨g,0,none⟩)] w fun e w'=>e= .returned (.bool (d.name.toList==s.toList))/\Grow w w':=by
 have hG:Grow w (w.alloc (.cells #[.string d.name,Yv Yi d.op, .string d.a, .string d.b,Yv Yi d.value.rows,Yv Yi d.value.cols,sv] 30)):=(Grow.refl w).alloc _ _;have hg':=hG.cell hg;go_enter Tryz.func69,Tryz.ntmps69;go_wp2;go_ret;exact ⟨rfl,hG⟩
theorem Zme (a:Option Addr) (n cap g:Nat) (l:List Dfn) (s:ByteArray) (w:World) (h:RdD w S a n cap l) (hg:w.cell? ⟨g,0,none⟩=some (.string s)) (hn:n<=2097152):
  Calls Tryz.prog 68 #[.slice a n cap, .func (.func 69) #[] #[.pointer (some ⟨g,0,none⟩)]] w fun e w'=>e= .returned (Yv Yi (Zk l s))/\Grow w w':=by
 have Hl:=hid h.len;go_enter Tryz.func68,Tryz.ntmps68;go_wp2;go_loopw [8] (fun i wr=>Grow w wr/\ ∃ k:Nat,k<=n/\i=Yv Yi k/\ ∀ d∈l.take k,(d.name.toList==s.toList)=false) (fun i _=>n-(intOf i).toNat);case atStart=>exact ⟨Grow.refl _,0,Nat.zero_le _,rfl,by simp⟩
 case round=>
  obtain ⟨hG,k,hk,rfl,he⟩:=hrel;have He:=hid he;clear he;by_cases hlt:k<n
  ·obtain ⟨b,off,d,a1,c1,rfl,hx,_,hbw,⟨e0,e1,e2,e3,e4,e5,e6⟩, -, -⟩:=(h.grow hG).at hlt;have Hx:=hid hx;clear hx;go_wp2_with fail;refine (Zkm s d _ g _ (hG.cell hg)).mono ?_;rintro e w' ⟨rfl,hG1⟩;cases hd:d.name.toList==s.toList with
   |true=>go_wp2;go_ret;exact ⟨Zz (ZcL He.out Hx.out hd).symm,hG.trans hG1⟩
   |false=>
    go_wp2;go_roundw;case rel=>
     refine ⟨hG.trans hG1,k+1,by omega,by go_num,fun z hz=> ?_⟩;rw[ZC Hx.out,List.mem_append,List.mem_singleton] at hz;rcases hz with hz|rfl
     ·exact He.out z hz
     ·exact hd
    case measure=>simp[intOf];omega
  ·go_wp2;go_ret;have:k=n:=(by omega);subst this;have:=He.out;rw[ZI Hl.out] at this;exact ⟨Zz (Zex this).symm,hG⟩
theorem ZcF (a:Option Addr) (n cap:Nat) (l:List Dfn) (s:ByteArray) (w:World) (h:RdD w S a n cap l) (hn:n<=2097152):
  Calls Tryz.prog 42 #[.slice a n cap, .string s] w fun e w'=>e= .returned (Yv Yi (Zk l s))/\Grow w w':=by
 have hG:Grow w (w.alloc (.cells #[.string s] 9)):=(Grow.refl w).alloc _ _;have hb:(w.alloc (.cells #[.string s] 9)).cell? ⟨w.heap.size,0,none⟩=some (.string s):=(Blk.new w #[.string s] 9).cell 0;go_enter Tryz.func42,Tryz.ntmps42;go_wp2_with fail;refine (Zme _ _ _ w.heap.size l s _ (h.grow hG) hb hn).mono ?_;rintro e w1 ⟨rfl,hG1⟩;go_wp2;go_ret;exact ⟨rfl,hG.trans hG1⟩

end Go.Proofs.YtgeoehnbpkediaaGreat
