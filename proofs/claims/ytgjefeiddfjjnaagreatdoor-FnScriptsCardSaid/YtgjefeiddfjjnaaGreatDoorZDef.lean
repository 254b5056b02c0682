/- []Def: definitions, read and owned. -/
import Derived.Test.YtgjefeiddfjjnaaGreatDoorZIsMat
import Derived.Test.YtgjefeiddfjjnaaGreatDoorZAddM
import Derived.Test.YtgjefeiddfjjnaaGreatDoorZRedP
import Derived.Test.YtgjefeiddfjjnaaGreatDoorZSmith
import Derived.Test.YtgjefeiddfjjnaaGreatDoorZDetI
import Derived.Test.YtgjefeiddfjjnaaGreatDoorZKer
import Derived.Test.YtgjefeiddfjjnaaGreatDoorZRedI
import Derived.Test.YtgjefeiddfjjnaaGreatDoorZStack
set_option maxHeartbeats 8000000
set_option maxRecDepth 100000
namespace Go.Proofs.YtgjefeiddfjjnaaGreatDoor
open Go.RowKit
open Lib (hid)
open Go.Value renaming int->Yv
open Go.IntKind renaming i64->Yi
open Int renaming toNat_natCast->K4
open List renaming getElem?_take->LH,set_append_right->Me,set_cons_succ->KC
open Option.some renaming inj->JJ
open Go.Proofs.Tryz renaming func158->Ni,ntmps158->NY,prog->JG
open Go.Proofs.Tryz
variable {F G S T:Nat->Prop} {P:Program} {cap g k n o:Nat} {m r:Mat} {s v:Value} {t ty:TypeId} {w w':World}
structure Dfn where
 name:ByteArray
 op:Int
 a:ByteArray
 b:ByteArray
 value:Mat
variable {d:Dfn} {l:List Dfn}
def Zau (d:Dfn) (s:Value):List Value:=[.string d.name,Yv Yi d.op, .string d.a, .string d.b,Yv Yi d.value.rows,Yv Yi d.value.cols,s]
def Zbc:List Dfn->List Value->List Value
 |d::l,s::ss=>Zau d s++Zbc l ss
 |_,_=>[]
theorem Zn7: ∀ {l:List Dfn} {ss:List Value},ss.length=l.length->(Zbc l ss).length=l.length*7
 |[],[],_=>rfl
 |[],_::_,h=>ν
 |_::_,[],h=>ν
 |d::l,s::ss,h=>by simp only[Zbc,List.length_append,Zn7 (l:=l) (ss:=ss) Ai,Zau,List.length_cons,List.length_nil];omega
theorem Zlx: ∀ {l:List Dfn} {ss:List Value} {k j:Nat} {d:Dfn} {s:Value},l[k]? =some d->ss[k]? =some s->j<7->(Zbc l ss)[k*7+j]? =(Zau d s)[j]?
 |[],_,k,j,d,s,h,_,_=>ν
 |_::_,[],k,j,d,s,_,h,_=>ν
 |d'::l,s'::ss,0,j,d,s,h,h',hj=>by simp at h h';subst h;subst h';simp only[Zbc];rw[List.getElem?_append_left Ec];simp
 |d'::l,s'::ss,k+1,j,d,s,h,h',hj=>by simp only[Zbc];rw[List.getElem?_append_right Ec,show (k+1)*7+j-(Zau d' s').length=k*7+j from Ec];exact Zlx Ai (by simpa using h') hj
theorem ZjR: ∀ {l r:List Dfn} {ss tt:List Value},ss.length=l.length->Zbc (l++r) (ss++tt)=Zbc l ss++Zbc r tt
 |[],r,[],tt,_=>rfl
 |[],_,_::_,_,h=>ν
 |_::_,_,[],_,h=>ν
 |d::l,r,s::ss,tt,h=>by simp[Zbc,ZjR (l:=l) (r:=r) (ss:=ss) (tt:=tt) Ai]
theorem ZtQ (d:Dfn) (s:Value):Zbc [d] [s]=Zau d s:=by simp[Zbc]
theorem ZmI: ∀ {l:List Dfn} {ss:List Value} (k:Nat),ss.length=l.length->Zbc (l.take k) (ss.take k)=(Zbc l ss).take (k*7)
 |[],[],k,_=>by simp[Zbc]
 |[],_::_,_,h=>ν
 |_::_,[],_,h=>ν
 |d::l,s::ss,0,h=>by simp[Zbc]
 |d::l,s::ss,k+1,h=>by simp only[List.take_succ_cons,Zbc,ZmI (l:=l) (ss:=ss) k Ai];rw[List.take_append,show (k+1)*7-(Zau d s).length=k*7 from Ec,List.take_of_length_le (show (Zau d s).length<=(k+1)*7 from Ec)]
def DOk (d:Dfn):Prop:=d.name.size<=maxLen/\I64 d.op/\d.a.size<=maxLen/\d.b.size<=maxLen/\I64 d.value.rows/\I64 d.value.cols
def ZbQ (l:List Dfn):List (List Int):=l.map (·.value.cells)
@[simp] theorem Zwm (l:List Dfn):(ZbQ l).length=l.length:=by simp[ZbQ]
theorem Zt5 (h:l[k]? =some d):(ZbQ l)[k]? =some d.value.cells:=by simp[ZbQ,h]
theorem ZoJ (l r:List Dfn):ZbQ (l++r)=ZbQ l++ZbQ r:=by simp[ZbQ]
theorem Zqt (l:List Dfn) (k:Nat):ZbQ (l.take k)=(ZbQ l).take k:=by simp[ZbQ,List.map_take]
structure RdD (w:World) (S:Nat->Prop) (a:Option Addr) (n cap:Nat) (l:List Dfn):Prop where
 row: ∃ ss:List Value,ss.length=l.length/\Row w S 7 a n cap (Zbc l ss)/\RdCells w S ss (ZbQ l)
 len:l.length=n
 ok: ∀ d∈l,DOk d
theorem RdD.keep {a:Option Addr} (h:RdD w S a n cap l) (hk:Keep T w w') (hST: ∀ b,b<w.heap.size->S b->T b):RdD w' S a n cap l:=by
 exact Jd
theorem RdD.grow {a:Option Addr} (h:RdD w S a n cap l) (hk:Grow w w'):RdD w' S a n cap l:=h.keep hk fun _ _ _=>trivial
theorem RdD.weak {a:Option Addr} (h:RdD w S a n cap l) (hST: ∀ b,b<w.heap.size->S b->T b):RdD w T a n cap l:=by
 obtain ⟨⟨c,d,e,f⟩,g,i⟩:=h;exact ⟨⟨c,d,e.weak hST,f.weak hST⟩,g,i⟩
theorem RdD.cap_le {a:Option Addr} (h:RdD w S a n cap l):n<=cap/\cap<=maxLen:=by
 obtain ⟨⟨c,d,b,e⟩,f,g⟩:=h;exact ⟨b.le,b.max⟩
structure DAt (w:World) (b o:Nat) (d:Dfn) (s:Value):Prop where
 c0:w.cell? ⟨b,o,none⟩=some (.string d.name)
 c1:w.cell? ⟨b,o+1,none⟩=some (Yv Yi d.op)
 c2:w.cell? ⟨b,o+2,none⟩=some (.string d.a)
 c3:w.cell? ⟨b,o+3,none⟩=some (.string d.b)
 c4:w.cell? ⟨b,o+4,none⟩=some (Yv Yi d.value.rows)
 c5:w.cell? ⟨b,o+5,none⟩=some (Yv Yi d.value.cols)
 c6:w.cell? ⟨b,o+6,none⟩=some s
theorem DAt.keep {b:Nat} (h:DAt w b o d s) (hk:Keep S w w') (hS:S b):DAt w' b o d s:=
 ⟨hk.cell hS h.c0,hk.cell hS h.c1,hk.cell hS h.c2,hk.cell hS h.c3,hk.cell hS h.c4,hk.cell hS h.c5,hk.cell hS h.c6⟩
theorem DAt.grow {b:Nat} (h:DAt w b o d s) (hk:Grow w w'):DAt w' b o d s:=h.keep hk trivial
theorem DAt.of_blk (h:Blk w g (Zau d s).toArray t):DAt w g 0 d s:=
 ⟨h.cell 0,h.cell 1,h.cell 2,h.cell 3,h.cell 4,h.cell 5,h.cell 6⟩
theorem RdD.at {a:Option Addr} (h:RdD w S a n cap l) (hk:k<n):
  ∃ b off d a1 c1,a=some ⟨b,off,none⟩/\l[k]? =some d/\S b/\b<w.heap.size/\DAt w b (off+k*7) d (.slice a1 d.value.cells.length c1)/\RdI w S a1 d.value.cells.length c1 d.value.cells/\DOk d:=by
 obtain ⟨⟨A,B,o,p⟩,C,q⟩:=h;have g:k<l.length:=I
 have f:l[k]? =some l[k]:=List.getElem?_eq_getElem g;obtain ⟨a1,c1,i,r⟩:=p _ _ (Zt5 f);obtain ⟨b,off,s,t,x⟩:=o.addr (by
  intro e;have:=Zlx (j:=0) f i I;rw[e] at this;simp[Zau] at this)
 have c: ∀ j v,j<7->(Zau l[k] (.slice a1 l[k].value.cells.length c1))[j]? =some v->w.cell? ⟨b,off+k*7+j,none⟩=some v:=fun j v y z=>by rw[Nat.add_assoc];exact x _ _ (by rw[Zlx f i y];exact z)
 have m:=c 0 _ I rfl;exact ⟨b,off,l[k],a1,c1,s,f,t,World.block_lt_of_cell? w _ m,⟨m,c 1 _ I rfl,c 2 _ I rfl,c 3 _ I rfl,c 4 _ I rfl,c 5 _ I rfl,c 6 _ I rfl⟩,r,q _ (List.getElem_mem g)⟩
theorem RdD.pre {a:Option Addr} (h:RdD w S a n cap l) (hk:k<=n):RdD w S a k cap (l.take k):=by
 obtain ⟨⟨g,h0,j,m⟩,t,o⟩:=h;refine ⟨⟨g.take k,Av,by rw[ZmI k h0];exact j.pre hk,fun i p e=> ?_⟩,Ψ,fun d q=>o d (List.mem_of_mem_take q)⟩;rw[Zqt,LH] at e;split at e
 ·rename_i f;obtain ⟨b,c,r,s⟩:=m i p e;exact ⟨b,c,by rw[LH,if_pos f];exact r,s⟩
 ·cases e
structure SepD (w:World) (F:Nat->Prop) (a:Option Addr) (n cap:Nat) (l:List Dfn):Prop where
 own: ∃ ss,Own w 39 7 a n cap (Zbc l ss)/\Inner w F (blk a) ss (ZbQ l)
 len:l.length=n
 ok: ∀ d∈l,DOk d
 lo: ∀ g,blk a=some g->F g
theorem SepD.keep {a:Option Addr} (h:SepD w F a n cap l) (hk:Keep T w w') (hT: ∀ b,b<w.heap.size->F b->T b):SepD w' F a n cap l:=by
 exact Iq
theorem SepD.grow {a:Option Addr} (h:SepD w F a n cap l) (hk:Grow w w'):SepD w' F a n cap l:=h.keep hk fun _ _ _=>trivial
theorem SepD.weak {a:Option Addr} (h:SepD w F a n cap l) (hF: ∀ b,b<w.heap.size->F b->G b):SepD w G a n cap l:=by
 obtain ⟨⟨i,e,j⟩,k,m,o⟩:=h;exact ⟨⟨i,e,j.weak fun b p c d=>⟨hF b p c,d⟩⟩,k,m,fun g f=>hF g (e.lt f) (o g f)⟩
theorem SepD.rdD {a:Option Addr} (h:SepD w F a n cap l) (hS: ∀ b,F b->S b):RdD w S a n cap l:=by
 obtain ⟨⟨d,e,c⟩,f,i,j⟩:=h;exact ⟨⟨d,by have:=c.len;simpa using this,e.row fun g k=>hS g (j g k),c.rdCells fun b m _=>hS b m⟩,f,i⟩
theorem Blk.seven {a b c d e f x:Value} (h:Blk w g #[a,b,c,d,e,f,x] t):
  (w.cell? ⟨g,0,none⟩=some a/\w.cell? ⟨g,1,none⟩=some b/\w.cell? ⟨g,2,none⟩=some c/\w.cell? ⟨g,3,none⟩=some d/\w.cell? ⟨g,4,none⟩=some e/\w.cell? ⟨g,5,none⟩=some f/\w.cell? ⟨g,6,none⟩=some x)/\w.frozen? ⟨g,0,none⟩=false:=
 ⟨⟨h.cell 0,h.cell 1,h.cell 2,h.cell 3,h.cell 4,h.cell 5,h.cell 6⟩,h.free 0⟩
theorem Zbd:StT JG 39 7:=⟨_,underlying39,Ξ⟩
theorem T_defs:SlT JG 26 39 (.agg #[.string ⟨#[]⟩,Yv Yi 0, .string ⟨#[]⟩, .string ⟨#[]⟩,Yv Yi 0,Yv Yi 0, .slice none 0 0]) 7 96:=SlT.mk' underlying26 Ξ rfl
theorem StT.load7 (h:StT P ty 7) {b:Nat} (hd:DAt w b o d s):(loadVar ty ⟨b,o,none⟩).run P w= .ok (.agg (Zau d s).toArray) w:=by
 obtain ⟨n,g,k⟩:=h;obtain ⟨i,c,l⟩:=Option.map_eq_some_iff.1 k;have m:(isAgg ty).run P w= .ok true w:=by simp[isAgg,run_underlying g]
 have e:(sizeOf ty).run P w= .ok 7 w:=by simp[sizeOf,typeInfo,c,l]
 have f:=run_loadCells_list (P:=P) (w:=w) ⟨b,o,none⟩ (Zau d s) (fun j x a=>by
  match j,a with
  |0,a=>simp[Zau] at a;subst a;simpa [Addr.add] using hd.c0
  |1,a=>simp[Zau] at a;subst a;simpa [Addr.add] using hd.c1
  |2,a=>simp[Zau] at a;subst a;simpa [Addr.add] using hd.c2
  |3,a=>simp[Zau] at a;subst a;simpa [Addr.add] using hd.c3
  |4,a=>simp[Zau] at a;subst a;simpa [Addr.add] using hd.c4
  |5,a=>simp[Zau] at a;subst a;simpa [Addr.add] using hd.c5
  |6,a=>simp[Zau] at a;subst a;simpa [Addr.add] using hd.c6
  |j+7,a=>simp[Zau] at a)
 simp only[show (Zau d s).length=7 from rfl] at f;simp[loadVar,m,e,f]
theorem Zfd {C:World->Prop} {o:Oper} {a:Act} {K:Act->Prop} {x:Operand} {b j:Nat} (hty:StT P ty 7) (ho:o.op= .load ty x) (hx:a.eval x= .pointer (some ⟨b,j,none⟩))
  (hv: ∀ w',C w'->DAt w' b j d s) (hk:K (a.put o.dst (.agg #[.string d.name,Yv Yi d.op, .string d.a, .string d.b,Yv Yi d.value.rows,Yv Yi d.value.cols,s]))):o.quiet P a C K:=by
 refine ⟨.agg (Zau d s).toArray,fun w c=> ?_,hk⟩;have h:=hty.load7 (hv w c);exact Io
def VDD (w:World) (S:Nat->Prop) (v:Value) (l:List Dfn):Prop:= ∃ a n c,v= .slice a n c/\RdD w S a n c l
def ODD (w:World) (F:Nat->Prop) (v:Value) (l:List Dfn):Prop:= ∃ a n c,v= .slice a n c/\SepD w F a n c l
def VD (w:World) (S:Nat->Prop) (v:Value) (d:Dfn):Prop:= ∃ a n c,v= .agg #[.string d.name,Yv Yi d.op, .string d.a, .string d.b,Yv Yi d.value.rows,Yv Yi d.value.cols, .slice a n c]/\RdI w S a n c d.value.cells/\DOk d
def OD (w:World) (F:Nat->Prop) (v:Value) (d:Dfn):Prop:= ∃ a n c,v= .agg #[.string d.name,Yv Yi d.op, .string d.a, .string d.b,Yv Yi d.value.rows,Yv Yi d.value.cols, .slice a n c]/\Own w 3 1 a n c (ints d.value.cells)/\(∀ x∈d.value.cells,I64 x)/\(∀ g,blk a=some g->F g)/\DOk d
def bdD (d:Dfn):Nat:=d.name.size+d.a.size+d.b.size+d.value.cells.length
def ZcI (l:List Dfn):Nat:=(l.map bdD).sum
def ZaE (l:List Dfn):Nat:=l.length+ZcI l
@[simp] theorem Zwx:ZcI []=0:=rfl
@[simp] theorem ZsG (d:Dfn) (l:List Dfn):ZcI (d::l)=bdD d+ZcI l:=by simp[ZcI]
theorem ZgS (l r:List Dfn):ZcI (l++r)=ZcI l+ZcI r:=by simp[ZcI]
theorem ZpF (h:l[k]? =some d):ZcI (l.take (k+1))=ZcI (l.take k)+bdD d/\ZcI (l.take k)+bdD d<=ZcI l:=by
 have a:ZcI (l.take (k+1))=ZcI (l.take k)+bdD d:=by rw[ZH h,ZgS];simp
 refine ⟨a, ?_⟩;rw[←a]
 conv=>rhs;rw[←List.take_append_drop (k+1) l]
 rw[ZgS];omega
theorem VDD.keep (h:VDD w S v l) (hk:Keep T w w') (hST: ∀ b,b<w.heap.size->S b->T b):VDD w' S v l:=by
 exact Ih
theorem VDD.grow (h:VDD w S v l) (hk:Grow w w'):VDD w' S v l:=h.keep hk fun _ _ _=>trivial
theorem VDD.weak (h:VDD w S v l) (hST: ∀ b,b<w.heap.size->S b->T b):VDD w T v l:=by
 exact IQ
theorem ODD.keep (h:ODD w F v l) (hk:Keep T w w') (hT: ∀ b,b<w.heap.size->F b->T b):ODD w' F v l:=by
 obtain ⟨a,n,c,rfl,h⟩:=h;exact ⟨a,n,c,rfl,h.keep hk hT⟩
theorem ODD.grow (h:ODD w F v l) (hk:Grow w w'):ODD w' F v l:=h.keep hk fun _ _ _=>trivial
theorem ODD.weak (h:ODD w F v l) (hF: ∀ b,b<w.heap.size->F b->G b):ODD w G v l:=by
 obtain ⟨a,n,c,rfl,h⟩:=h;exact ⟨a,n,c,rfl,h.weak hF⟩
theorem ODD.rd (h:ODD w F v l) (hS: ∀ b,F b->S b):VDD w S v l:=by
 obtain ⟨a,n,c,rfl,h⟩:=h;exact ⟨a,n,c,rfl,h.rdD hS⟩
theorem VD.keep (h:VD w S v d) (hk:Keep T w w') (hST: ∀ b,b<w.heap.size->S b->T b):VD w' S v d:=by
 obtain ⟨a,n,c,rfl,h,e⟩:=h;exact ⟨a,n,c,rfl,h.keep hk hST,e⟩
theorem VD.grow (h:VD w S v d) (hk:Grow w w'):VD w' S v d:=h.keep hk fun _ _ _=>trivial
theorem VD.weak (h:VD w S v d) (hST: ∀ b,b<w.heap.size->S b->T b):VD w T v d:=by
 obtain ⟨a,n,c,rfl,h,e⟩:=h;exact ⟨a,n,c,rfl,h.weak hST,e⟩
theorem OD.keep (h:OD w F v d) (hk:Keep T w w') (hT: ∀ b,b<w.heap.size->F b->T b):OD w' F v d:=by
 obtain ⟨a,n,c,rfl,i,j,f,k⟩:=h;exact ⟨a,n,c,rfl,i.keep hk (fun g l e=>hT g e (f g l)),j,f,k⟩
theorem OD.grow (h:OD w F v d) (hk:Grow w w'):OD w' F v d:=h.keep hk fun _ _ _=>trivial
theorem OD.weak (h:OD w F v d) (hF: ∀ b,b<w.heap.size->F b->G b):OD w G v d:=by
 obtain ⟨a,n,c,rfl,e,i,j,k⟩:=h;exact ⟨a,n,c,rfl,e,i,fun g f=>hF g (e.lt f) (j g f),k⟩
theorem OD.rd (h:OD w F v d) (hS: ∀ b,F b->S b):VD w S v d:=by
 obtain ⟨a,n,c,rfl,e,f,i,j⟩:=h;exact ⟨a,n,c,rfl,e.rdI (fun g k=>hS g (i g k)) f,j⟩
def Zgj:Dfn:=⟨⟨#[]⟩,0,⟨#[]⟩,⟨#[]⟩,⟨0,0,[]⟩⟩
def dset (l:List Value) (o:Nat) (d:Dfn) (s:Value):List Value:=
 (((((((l.set o (.string d.name)).set (o+1) (Yv Yi d.op)).set (o+2) (.string d.a)).set (o+3) (.string d.b)).set (o+4) (Yv Yi d.value.rows)).set (o+5) (Yv Yi d.value.cols)).set (o+6) s)
theorem Zpa {l r:List Value} (h:l.length<=o):dset (l++r) o d s=l++dset r (o-l.length) d s:=by
 unfold dset;rw[Me _ _ I,Me _ _ I,Me _ _ I,Me _ _ I,Me _ _ I,Me _ _ I,Me _ _ I];rw[show o+1-l.length=o-l.length+1 from I,show o+2-l.length=o-l.length+2 from I,show o+3-l.length=o-l.length+3 from I,show o+4-l.length=o-l.length+4 from I,show o+5-l.length=o-l.length+5 from I,show o+6-l.length=o-l.length+6 from I]
theorem Zm2: ∀ {l:List Dfn} {ss:List Value} {k:Nat} {d:Dfn} {s:Value},ss.length=l.length->k<l.length->dset (Zbc l ss) (k*7) d s=Zbc (l.set k d) (ss.set k s)
 |[],_,k,d,s,_,h=>ν
 |_::_,[],k,d,s,h,_=>ν
 |d'::l,s'::ss,0,d,s,h,_=>by simp only[Zbc,Zau,List.set_cons_zero,Nat.zero_mul,dset,List.cons_append,KC,Nat.zero_add,List.nil_append]
 |d'::l,s'::ss,k+1,d,s,h,hk=>by simp only[Zbc,KC];have hl:(Zau d' s').length=7:=rfl;rw[Zpa (by rw[hl];omega),hl,show (k+1)*7-7=k*7 from I,Zm2 Ai (by simpa using hk)]
theorem Own.dset {e:TypeId} {p:Addr} {L:List Dfn} {ss:List Value} (h:Own w e 7 (some p) n cap (Zbc L ss)) (hl:ss.length=L.length) (hk:k<L.length):
  Own (((((((w.setCell ⟨p.block,k*7,none⟩ (.string d.name)).setCell ⟨p.block,k*7+1,none⟩ (Yv Yi d.op)).setCell ⟨p.block,k*7+2,none⟩ (.string d.a)).setCell ⟨p.block,k*7+3,none⟩ (.string d.b)).setCell ⟨p.block,k*7+4,none⟩ (Yv Yi d.value.rows)).setCell ⟨p.block,k*7+5,none⟩ (Yv Yi d.value.cols)).setCell ⟨p.block,k*7+6,none⟩ s) e 7 (some p) n cap (Zbc (L.set k d) (ss.set k s)):=by
 rw[←Zm2 hl hk];exact ((((((h.set _ _).set _ _).set _ _).set _ _).set _ _).set _ _).set _ _
def Zn (l:List Dfn) (s:ByteArray):Int:=firstIdx (fun d=>d.name.toList==s.toList) l
theorem Zd2 (a:Option Addr) (n cap:Nat) (l:List Dfn) (s:ByteArray) (w:World) (h:RdD w S a n cap l) (hn:n<=2097152):
  Calls JG 48 #[.slice a n cap, .string s] w fun e w'=>e= .returned (Yv Yi (Zn l s))/\w=w':=by
 have j:=hid h.len;go_enter func48,ntmps48;go_wp2;go_loop [5] (fun i=> ∃ k:Nat,k<=n/\i=Yv Yi k/\ ∀ d∈l.take k,(d.name.toList==s.toList)=false) (fun i=>n-(intOf i).toNat);case atStart=>exact ⟨0,Nat.zero_le _,rfl,Θ⟩
 case round=>
  obtain ⟨k,p,rfl,f⟩:=hrel;have He:=hid f;clear f;by_cases c:k<n
  ·obtain ⟨b,m,d,q,r,rfl,g,_,o,⟨t, -, -, -, -, -, -⟩, -, -⟩:=h.at c;have Hx:=hid g;clear g;cases hd:d.name.toList==s.toList with
   |true=>go_wp2;go_ret;exact ⟨ZJ (Zfm He.out Hx.out hd).symm,rfl⟩
   |false=>
    go_wp2
    go_round
    case rel=>
     refine ⟨k+1,I,Δ,fun z hz=> ?_⟩;exact Ja
    case measure=>exact FN
  ·go_wp2;go_ret;have:k=n:=I;subst this;have:=He.out;rw[Z5 j.out] at this;exact ⟨ZJ (ZgT this).symm,rfl⟩
theorem ZmQ (s:ByteArray) (d:Dfn) (sv:Value) (g:Nat) (w:World) (hg:w.cell? ⟨g,0,none⟩=some (.string s)):
  Calls JG 105 #[.agg #[.string d.name,Yv Yi d.op, .string d.a, .string d.b,Yv Yi d.value.rows,Yv Yi d.value.cols,sv], .pointer (some ⟨g,0,none⟩)] w fun e w'=>e= .returned (.bool (d.name.toList==s.toList))/\Grow w w':=by
 have c:Grow w (w.alloc (.cells #[.string d.name,Yv Yi d.op, .string d.a, .string d.b,Yv Yi d.value.rows,Yv Yi d.value.cols,sv] 39)):=(Grow.refl w).alloc _ _;have f:=c.cell hg;go_enter func105,ntmps105;go_wp2;go_ret;exact ⟨rfl,c⟩
theorem Zo5 (a:Option Addr) (n cap g:Nat) (l:List Dfn) (s:ByteArray) (w:World) (h:RdD w S a n cap l) (hg:w.cell? ⟨g,0,none⟩=some (.string s)) (hn:n<=2097152):
  Calls JG 104 #[.slice a n cap, .func (.func 105) #[] #[.pointer (some ⟨g,0,none⟩)]] w fun e w'=>e= .returned (Yv Yi (Zn l s))/\Grow w w':=by
 have p:=hid h.len;go_enter func104,ntmps104;go_wp2;go_loopw [8] (fun i wr=>Grow w wr/\ ∃ k:Nat,k<=n/\i=Yv Yi k/\ ∀ d∈l.take k,(d.name.toList==s.toList)=false) (fun i _=>n-(intOf i).toNat);case atStart=>exact ⟨Grow.refl _,0,Nat.zero_le _,rfl,Θ⟩
 case round=>
  obtain ⟨c,k,t,rfl,m⟩:=hrel;have He:=hid m;clear m;by_cases j:k<n
  ·obtain ⟨b,q,d,v,x,rfl,o,_,r,⟨y,A,B,C,D,E,F⟩, -, -⟩:=(h.grow c).at j;have Hx:=hid o;clear o;go_wp2_with fail;refine (ZmQ s d _ g _ (c.cell hg)).mono ?_;rintro e w' ⟨rfl,f⟩;cases hd:d.name.toList==s.toList with
   |true=>go_wp2;go_ret;exact ⟨ZJ (Zfm He.out Hx.out hd).symm,c.trans f⟩
   |false=>
    go_wp2;go_roundw;case rel=>
     refine ⟨c.trans f,k+1,I,Δ,fun z hz=> ?_⟩;exact Ja
    case measure=>exact FN
  ·go_wp2;go_ret;have:k=n:=I;subst this;have:=He.out;rw[Z5 p.out] at this;exact ⟨ZJ (ZgT this).symm,c⟩
theorem Zd0 (a:Option Addr) (n cap:Nat) (l:List Dfn) (s:ByteArray) (w:World) (h:RdD w S a n cap l) (hn:n<=2097152):
  Calls JG 58 #[.slice a n cap, .string s] w fun e w'=>e= .returned (Yv Yi (Zn l s))/\Grow w w':=by
 have c:Grow w (w.alloc (.cells #[.string s] 9)):=(Grow.refl w).alloc _ _;have d:(w.alloc (.cells #[.string s] 9)).cell? ⟨w.heap.size,0,none⟩=some (.string s):=(Blk.new w #[.string s] 9).cell 0;go_enter func58,ntmps58;go_wp2_with fail;refine (Zo5 _ _ _ w.heap.size l s _ (h.grow c) d hn).mono ?_;rintro e f ⟨rfl,b⟩;go_wp2;go_ret;exact ⟨rfl,c.trans b⟩
def Zdb (m:Mat):Option Mat:=if Zd m=true then (ZbP m.cells m.rows.toNat m.cols.toNat).map fun s=>{rows:=m.rows,cols:=m.cols,cells:=s.1} else none
def Zdf (m:Mat):Option Mat:=if Zd m=true then (Zcz m.cells m.rows.toNat m.cols.toNat).map fun s=>{rows:=m.rows,cols:=m.cols,cells:=s.1} else none
def okF (b:Bool) (m:Mat):Option Mat:=if b=true then some m else none
def opF (op:Int) (a b:Mat):Option Mat:=
 if op=1 then okF (ZfK a b) (amB a b)
 else if op=2 then okF (ZC a b) (Zq a b)
 else if op=3 then okF (Zd a) (trB a)
 else if op=4 then okF (ZdS a) {rows:=1,cols:=1,cells:=[dtV a]}
 else if op=5 then Zdb a
 else if op=6 then Zdf a
 else if op=7 then okF (Zdh a) (Zcv a)
 else if op=8 then okF (ZaO a) (ZaD a)
 else okF (ZbH a) (Zbe a)
theorem ZsH (b:Bool) (m:Mat):(okF b m).isSome=b:=by unfold okF;cases b<;>rfl
theorem ZeB {b:Bool} {x:Mat} (h:okF b m=some x):x=m:=by unfold okF at h;split at h;exact (JJ h).symm;cases h
theorem ZvJ (h:VM w S v m) (hb:bdM m<=1048576):
  Calls JG 219 #[v] w fun e w'=> ∃ x1 x2 x3 x4 x5 y1 y2 y3 y4 y5,e= .returned (.tuple #[.agg #[Yv Yi x1,Yv Yi x2, .slice x3 x4 x5], .agg #[Yv Yi y1,Yv Yi y2, .slice y3 y4 y5], .bool (Zdb m).isSome])/\(∀ r,Zdb m=some r->OM w' (fun q=>w.heap.size<=q) (.agg #[Yv Yi x1,Yv Yi x2, .slice x3 x4 x5]) r)/\Grow w w':=by
 have g:=h;obtain ⟨a,n,c,rfl,h,ir,ic⟩:=h;cases hB:Zd m with
 |false=>
  refine (Zg3 g hb hB).mono ?_;rintro e w' ⟨rfl,hG⟩;have hn:Zdb m=none:=by unfold Zdb;rw[hB];rfl
  exact GI
 |true=>
  obtain ⟨R,C,hmr,hmc,i,j,d,b⟩:=Zl hB;have f:Zdb m=(ZbP m.cells R C).map fun s=>{rows:=m.rows,cols:=m.cols,cells:=s.1}:=DU
  obtain ⟨l,o,cells⟩:=m;simp only at hmr hmc d b h f ir ic;subst hmr;subst hmc;refine (ZiF h d b i j).mono ?_;rintro e w' ⟨hG,k⟩;rw[f];rcases k with ⟨hn,rfl⟩|⟨s,aa,ca,p,t,hn,rfl,⟨h1,h1b,h1c⟩,x⟩
  ·exact GI
  ·refine ⟨_,_,_,_,_,_,_,_,_,_,A9,fun y hs=> ?_,hG⟩;exact Jk
theorem Ztu (h:VM w S v m) (hb:bdM m<=1048576):
  Calls JG 108 #[v] w fun e w'=> ∃ x1 x2 x3 x4 x5 y1 y2 y3 y4 y5 z1 z2 z3 z4 z5,e= .returned (.tuple #[.agg #[Yv Yi x1,Yv Yi x2, .slice x3 x4 x5], .agg #[Yv Yi y1,Yv Yi y2, .slice y3 y4 y5], .agg #[Yv Yi z1,Yv Yi z2, .slice z3 z4 z5], .bool (Zdf m).isSome])/\(∀ r,Zdf m=some r->OM w' (fun q=>w.heap.size<=q) (.agg #[Yv Yi x1,Yv Yi x2, .slice x3 x4 x5]) r)/\Grow w w':=by
 have g:=h;obtain ⟨a,n,c,rfl,h,ir,ic⟩:=h;cases hB:Zd m with
 |false=>
  refine (ZiM g hb hB).mono ?_;rintro e w' ⟨rfl,hG⟩;have hn:Zdf m=none:=by unfold Zdf;rw[hB];rfl
  exact Ik
 |true=>
  obtain ⟨R,C,hmr,hmc,i,j,d,b⟩:=Zl hB;have f:Zdf m=(Zcz m.cells R C).map fun s=>{rows:=m.rows,cols:=m.cols,cells:=s.1}:=DT
  obtain ⟨l,o,cells⟩:=m;simp only at hmr hmc d b h f ir ic;subst hmr;subst hmc;refine (Zk3 h d b i j).mono ?_;rintro e w' ⟨hG,k⟩;rw[f];rcases k with ⟨hn,rfl⟩|⟨s,aa,ca,p,t,x,y,z,A,hn,rfl,⟨h1,h1b,h1c⟩⟩
  ·exact Ik
  ·refine ⟨_,_,_,_,_,_,_,_,_,_,_,_,_,_,_,A9,fun B hs=> ?_,hG⟩;exact Jk
theorem Zwc (h:VM w S v m) (hb:bdM m<=1048576):
  Calls JG 222 #[v] w fun e w'=> ∃ x1 x2 x3 x4 x5 y1 y2 y3 y4 y5,e= .returned (.tuple #[.agg #[Yv Yi x1,Yv Yi x2, .slice x3 x4 x5], .agg #[Yv Yi y1,Yv Yi y2, .slice y3 y4 y5], .bool (okF (ZbH m) (Zbe m)).isSome])/\(∀ r,okF (ZbH m) (Zbe m)=some r->OM w' (fun q=>w.heap.size<=q) (.agg #[Yv Yi x1,Yv Yi x2, .slice x3 x4 x5]) r)/\Grow w w':=by
 refine (ZvI h hb).mono ?_;rintro e w' ⟨p,y1,y2,y3,y4,y5,rfl,⟨a,b,c,rfl,d,f,i,j,k⟩,l⟩;exact ⟨_,_,_,_,_,_,_,_,_,_,by rw[ZsH],fun r n=>by rw[ZeB n];exact ⟨a,b,c,rfl,d,f,fun g o=>(i g o).1,j,k⟩,l⟩
theorem Zvx (m:Mat):I64 (dtV m):=by
 exact I6
def ZsA (r:Option Mat) (w:World) (e:Ending) (w':World):Prop:= ∃ x y a n c,e= .returned (.tuple #[.agg #[Yv Yi x,Yv Yi y, .slice a n c], .bool r.isSome])/\(∀ m,r=some m->OM w' (fun q=>w.heap.size<=q) (.agg #[Yv Yi x,Yv Yi y, .slice a n c]) m)/\Grow w w'
theorem ZqP {U:Nat->Prop} {dv u:Value} {A B:Mat} (hd:VD w U dv d) (h:VM w S u A) (h':VM w T v B) (hb:bdM A<=1048576) (hb':bdM B<=1048576):
  Calls JG 158 #[dv,u,v] w (ZsA (opF d.op A B) w):=by
 have F:=h;have vB:=h';obtain ⟨da,dn,dc,rfl, -⟩:=hd;obtain ⟨aa,na,ca,rfl, -⟩:=h;obtain ⟨ab,nb,cb,rfl, -⟩:=h';obtain ⟨w1,R,n, -,X,Y,i, -⟩:=al4 w #[.string d.name,Yv Yi d.op, .string d.a, .string d.b,Yv Yi d.value.rows,Yv Yi d.value.cols, .slice da dn dc] 39 #[Yv Yi A.rows,Yv Yi A.cols, .slice aa na ca] 37 #[Yv Yi B.rows,Yv Yi B.cols, .slice ab nb cb] 37 #[Yv Yi 0,Yv Yi 0, .slice none 0 0] 37;have G:=hid R;have E:=hid (show opF d.op A B=opF d.op A B from rfl);replace F:=F.grow n;replace vB:=vB.grow n;obtain ⟨j,s⟩:=eX (opF d.op A B);rw[←s];obtain ⟨op,Z⟩:=eX d.op;rw[←Z] at s R G ⊢;clear E R;have E:=hid s;obtain ⟨⟨a0,a1,a2⟩, -⟩:=X.three;obtain ⟨⟨b0,b1,b2⟩, -⟩:=Y.three;have t:=X.lt;have C:=Y.lt;rw[G.out] at a0 a1 a2 b0 b1 b2 t C;clear s Z;unfold ZsA;by_cases h0:op=1\/op=2\/op=3\/op=7\/op=8
 ·rcases h0 with rfl|rfl|rfl|rfl|rfl
  case' inl=>have p:=Zv4 F vB hb hb';have o:=hid (show j=okF (ZfK A B) (amB A B) by rw[E.out];rfl)
  case' inr.inl=>have p:=Zdu F vB I I;have o:=hid (show j=okF (ZC A B) (Zq A B) by rw[E.out];rfl)
  case' inr.inr.inl=>have p:=Zli F hb;have o:=hid (show j=okF (Zd A) (trB A) by rw[E.out];rfl)
  case' inr.inr.inr.inl=>have p:=ZoZ F hb;have o:=hid (show j=okF (Zdh A) (Zcv A) by rw[E.out];rfl)
  case' inr.inr.inr.inr=>have p:=ZlO F hb;have o:=hid (show j=okF (ZaO A) (ZaD A) by rw[E.out];rfl)
  all_goals
   replace p:=hid p;go_enter Ni,NY;go_wp2_with fail;rw[←G.out];refine p.out.mono ?_;rintro e D ⟨rv,rfl,⟨ra,rn,rc,rfl,oR,rR,fR,i1,i2⟩,l⟩;have ad:w.heap.size+1+1+1<w1.heap.size:=i.lt;replace i:=i.grow l;replace n:=n.trans l;clear p a0 a1 a2 b0 b1 b2 t C X Y;have f:w.heap.size<=w.heap.size+1+1+1:=I;have k: ∀ x y z,Keep (fun q=>q≠w.heap.size+1+1+1) D (((D.setCell ⟨w.heap.size+1+1+1,0,none⟩ x).setCell ⟨w.heap.size+1+1+1,1,none⟩ y).setCell ⟨w.heap.size+1+1+1,2,none⟩ z):=fun x y z=>
    kS
   have H:=hid k;clear k;obtain ⟨⟨z0,z1,z2⟩,g0,g1,g2⟩:=i.three;have J:=i.lt;go_wp2;exact Zb Zc rfl rfl rfl (((i.set 0 _).set 1 _).set 2 _) ⟨_,_,_,_,_,by rw[o.out,ZsH];rfl,fun m L=>by rw[o.out] at L;rw[ZeB L];exact ⟨ra,rn,rc,rfl,oR.keep (H.out _ _ _) (fun g hg _ e=>Cw),rR,(fun g hg=>Cw),i1,i2⟩,((n.setCell f _).setCell f _).setCell f _⟩
 by_cases V:op=4
 ·subst V;go_enter Ni,NY;go_wp2_with fail;rw[←G.out];refine (Zn1 F hb).mono ?_;rintro e D ⟨rfl,l⟩;have o:=hid (show j=okF (ZdS A) {rows:=1,cols:=1,cells:=[dtV A]} by rw[E.out];rfl);replace i:=i.grow l;replace n:=n.trans l;have ad:w.heap.size+1+1+1<D.heap.size:=i.lt;have af:=Zvx A;clear a0 a1 a2 b0 b1 b2 t C X Y;cases O:ZdS A with
  |false=>
   have M:=hid (show j=none by rw[o.out,O];rfl);clear O o;have f:w.heap.size<=w.heap.size+1+1+1:=I;have k: ∀ x y z,Keep (fun q=>q≠w.heap.size+1+1+1) D (((D.setCell ⟨w.heap.size+1+1+1,0,none⟩ x).setCell ⟨w.heap.size+1+1+1,1,none⟩ y).setCell ⟨w.heap.size+1+1+1,2,none⟩ z):=fun x y z=>
    kS
   have H:=hid k;clear k;obtain ⟨⟨z0,z1,z2⟩,g0,g1,g2⟩:=i.three;have J:=i.lt;go_wp2;exact Zb Zc rfl rfl rfl (((i.set 0 _).set 1 _).set 2 _) ⟨_,_,_,_,_,by rw[M.out];rfl,(fun m L=>by rw[M.out] at L;cases L),((n.setCell f _).setCell f _).setCell f _⟩
  |true=>
   have M:=hid (show j=some {rows:=1,cols:=1,cells:=[dtV A]} by rw[o.out,O];rfl);clear O o;generalize dtV A=dv at *;have f:w.heap.size<=w.heap.size+1+1+1:=I;have k: ∀ x y z,Keep (fun q=>q≠w.heap.size+1+1+1) D (((D.setCell ⟨w.heap.size+1+1+1,0,none⟩ x).setCell ⟨w.heap.size+1+1+1,1,none⟩ y).setCell ⟨w.heap.size+1+1+1,2,none⟩ z):=fun x y z=>
    kS
   have H:=hid k;clear k;obtain ⟨⟨z0,z1,z2⟩,g0,g1,g2⟩:=i.three;have J:=i.lt;go_wp2;have oD: ∀ x y z,Own ((((D.setCell ⟨w.heap.size+1+1+1,0,none⟩ x).setCell ⟨w.heap.size+1+1+1,1,none⟩ y).setCell ⟨w.heap.size+1+1+1,2,none⟩ z).alloc (.cells #[Yv Yi dv] 3)) 3 1 (some ⟨D.heap.size,0,none⟩) 1 1 (ints [dv]):=fun x y z=>Own.freshAt Θ Γ rfl;exact Zb Zc rfl rfl rfl ((((i.set 0 _).set 1 _).set 2 _).alloc _) ⟨_,_,_,_,_,by rw[M.out];rfl,(fun m L=>by rw[M.out] at L;rw[←JJ L];exact ⟨_,1,1,rfl,oD _ _ _,(fun x hx=>by rw[List.mem_singleton.1 hx];exact af),(fun q hq=>Fu),Bh,Bh⟩),(((n.setCell f _).setCell f _).setCell f _).alloc _ _⟩
 have hx:op=5\/op=6\/ ¬ (op=1\/op=2\/op=3\/op=4\/op=5\/op=6\/op=7\/op=8):=I
 clear h0 V;rcases hx with rfl|rfl|W
 case' inl=>have p:=ZvJ F hb;have o:=hid (show j=Zdb A by rw[E.out];rfl)
 case' inr.inl=>have p:=Ztu F hb;have o:=hid (show j=Zdf A by rw[E.out];rfl)
 case' inr.inr=>
  simp only[not_or] at W;obtain ⟨h1,h2,h3,V,W,h6,h7,h8⟩:=W;have q1:(op==1)=false:=AU
  have q2:(op==2)=false:=DP
  have q3:(op==3)=false:=by simp[h3]
  have q4:(op==4)=false:=by simp[V]
  have q5:(op==5)=false:=by simp[W]
  have q6:(op==6)=false:=by simp[h6]
  have q7:(op==7)=false:=by simp[h7]
  have q8:(op==8)=false:=by simp[h8]
  have p:=Zwc F hb;have o:=hid (show j=okF (ZbH A) (Zbe A) by rw[E.out];unfold opF;rw[if_neg h1,if_neg h2,if_neg h3,if_neg V,if_neg W,if_neg h6,if_neg h7,if_neg h8]);clear E h1 h2 h3 V W h6 h7 h8
 all_goals
  replace p:=hid p;go_enter Ni,NY;go_wp2_with fail;rw[←G.out];refine p.out.mono ?_;clear p;first
   |rintro e D ⟨x1,x2,x3,x4,x5,y1,y2,y3,y4,y5,rfl,hr,l⟩
   |rintro e D ⟨x1,x2,x3,x4,x5,y1,y2,y3,y4,y5,k1,k2,k3,k4,k5,rfl,hr,l⟩
  have ad:w.heap.size+1+1+1<w1.heap.size:=i.lt;replace i:=i.grow l;replace n:=n.trans l;clear a0 a1 a2 b0 b1 b2 t C X Y;obtain ⟨w3,ae,P,bX, -, -⟩:=al2 D #[Yv Yi x1,Yv Yi x2, .slice x3 x4 x5] 37 #[Yv Yi y1,Yv Yi y2, .slice y3 y4 y5] 37;replace i:=i.grow P;replace n:=n.trans P;have Hr:=hid fun r h=>(hr r h).grow P;rw[ae] at bX i n Hr;clear hr ae P l
  try
   have N:=(Grow.refl ((D.alloc (.cells #[Yv Yi x1,Yv Yi x2, .slice x3 x4 x5] 37)).alloc (.cells #[Yv Yi y1,Yv Yi y2, .slice y3 y4 y5] 37))).alloc #[Yv Yi k1,Yv Yi k2, .slice k3 k4 k5] 37;replace bX:=bX.grow N;replace i:=i.grow N;replace n:=n.trans N;replace Hr:=hid fun r h=>(Hr.out r h).grow N;clear N
  obtain ⟨⟨e0,e1,e2⟩, -⟩:=bX.three;have ag:=bX.lt;have f:w.heap.size<=w.heap.size+1+1+1:=I
  have k: ∀ (u:World) x y z,Keep (fun q=>q≠w.heap.size+1+1+1) u (((u.setCell ⟨w.heap.size+1+1+1,0,none⟩ x).setCell ⟨w.heap.size+1+1+1,1,none⟩ y).setCell ⟨w.heap.size+1+1+1,2,none⟩ z):=fun u x y z=>
   kS
  have H:=hid k;clear k;obtain ⟨⟨z0,z1,z2⟩,g0,g1,g2⟩:=i.three;have J:=i.lt;go_wp2;exact Zb Zc rfl rfl rfl (((i.set 0 _).set 1 _).set 2 _) ⟨_,_,_,_,_,by rw[o.out];rfl,fun m L=>by rw[o.out] at L;exact ((Hr.out m L).keep (H.out _ _ _ _) (fun g _ hg=>I)).weak fun q _ hq=>I,((n.setCell f _).setCell f _).setCell f _⟩
theorem ZuI (h:Zdb m=some r):bdM r<=1048576:=by
 unfold Zdb at h;split at h
 ·obtain ⟨R,C,b,c,e,f,g,a⟩:=Zl Af;rw[b,c,K4,K4] at h;cases d:ZbP m.cells R C with
  |none=>rw[d] at h;cases h
  |some s=>rw[d,Option.map_some] at h;rw[←JJ h];have i:=(Zcj g a d).1.la;have j:R*C<=24*24:=Nat.mul_le_mul e f;unfold bdM;simp only;omega
 ·cases h
theorem Zvr (h:Zdf m=some r):bdM r<=1048576:=by
 unfold Zdf at h;split at h
 ·obtain ⟨R,C,b,c,e,f,g,a⟩:=Zl Af;rw[b,c,K4,K4] at h;cases d:Zcz m.cells R C with
  |none=>rw[d] at h;cases h
  |some s=>rw[d,Option.map_some] at h;rw[←JJ h];have i:=(Zhu g a d).la;have j:R*C<=24*24:=Nat.mul_le_mul e f;unfold bdM;simp only;omega
 ·cases h
theorem ZsY (m:Mat):bdM (Zbe m)<=1048576:=by
 unfold Zbe;split
 ·split
  ·exact Zf4 _ _
  ·simp[bdM]
 ·simp[bdM]
theorem Zst {op:Int} {a b:Mat} (h:opF op a b=some r):bdM r<=1048576:=by
 unfold opF at h;split at h
 ·rw[ZeB h];unfold amB;split;exact Nat.le_trans ZvU Φ;simp[bdM]
 split at h
 ·rw[ZeB h];exact Zf4 _ _
 split at h
 ·rw[ZeB h];exact Znw _
 split at h
 ·rw[ZeB h];simp[bdM]
 split at h
 ·exact ZuI h
 split at h
 ·exact Zvr h
 split at h
 ·rw[ZeB h];have:=ZuQ a;omega
 split at h
 ·rw[ZeB h];exact Zkk _
 ·rw[ZeB h];exact ZsY _

end Go.Proofs.YtgjefeiddfjjnaaGreatDoor
