/- []Def: definitions, read and owned. -/
import Derived.Test.YtgeoehnbpkediaaGreatZIsMat
set_option maxHeartbeats 8000000
set_option maxRecDepth 100000
namespace Go.Proofs.YtgeoehnbpkediaaGreat
open Go.RowKit
open Lib (hid)
open Go.Value renaming int->Yv
open Go.IntKind renaming i64->Yi
variable {F S T:Nat->Prop} {P:Program} {cap g k n o:Nat} {s v:Value} {t ty:TypeId} {w w':World}
structure Dfn where
 name:ByteArray
 op:Int
 a:ByteArray
 b:ByteArray
 value:Mat
variable {d:Dfn} {l:List Dfn}
def Zan (d:Dfn) (s:Value):List Value:=[.string d.name,Yv Yi d.op, .string d.a, .string d.b,Yv Yi d.value.rows,Yv Yi d.value.cols,s]
def ZaO:List Dfn->List Value->List Value
 |d::l,s::ss=>Zan d s++ZaO l ss
 |_,_=>[]
theorem Zh7: ∀ {l:List Dfn} {ss:List Value},ss.length=l.length->(ZaO l ss).length=l.length*7
 |[],[],_=>rfl
 |[],_::_,h=>by simp at h
 |_::_,[],h=>by simp at h
 |d::l,s::ss,h=>by simp only[ZaO,List.length_append,Zh7 (l:=l) (ss:=ss) (by simpa using h),Zan,List.length_cons,List.length_nil];omega
theorem Zhx: ∀ {l:List Dfn} {ss:List Value} {k j:Nat} {d:Dfn} {s:Value},l[k]? =some d->ss[k]? =some s->j<7->(ZaO l ss)[k*7+j]? =(Zan d s)[j]?
 |[],_,k,j,d,s,h,_,_=>by simp at h
 |_::_,[],k,j,d,s,_,h,_=>by simp at h
 |d'::l,s'::ss,0,j,d,s,h,h',hj=>by simp at h h';subst h;subst h';simp only[ZaO];rw[List.getElem?_append_left (by simp[Zan];omega)];simp
 |d'::l,s'::ss,k+1,j,d,s,h,h',hj=>by simp only[ZaO];rw[List.getElem?_append_right (by simp[Zan];omega),show (k+1)*7+j-(Zan d' s').length=k*7+j from by simp[Zan];omega];exact Zhx (by simpa using h) (by simpa using h') hj
theorem Zfz: ∀ {l r:List Dfn} {ss tt:List Value},ss.length=l.length->ZaO (l++r) (ss++tt)=ZaO l ss++ZaO r tt
 |[],r,[],tt,_=>rfl
 |[],_,_::_,_,h=>by simp at h
 |_::_,_,[],_,h=>by simp at h
 |d::l,r,s::ss,tt,h=>by simp[ZaO,Zfz (l:=l) (r:=r) (ss:=ss) (tt:=tt) (by simpa using h)]
theorem Zkr (d:Dfn) (s:Value):ZaO [d] [s]=Zan d s:=by simp[ZaO]
theorem ZiX: ∀ {l:List Dfn} {ss:List Value} (k:Nat),ss.length=l.length->ZaO (l.take k) (ss.take k)=(ZaO l ss).take (k*7)
 |[],[],k,_=>by simp[ZaO]
 |[],_::_,_,h=>by simp at h
 |_::_,[],_,h=>by simp at h
 |d::l,s::ss,0,h=>by simp[ZaO]
 |d::l,s::ss,k+1,h=>by simp only[List.take_succ_cons,ZaO,ZiX (l:=l) (ss:=ss) k (by simpa using h)];rw[List.take_append,show (k+1)*7-(Zan d s).length=k*7 from by simp[Zan];omega,List.take_of_length_le (show (Zan d s).length<=(k+1)*7 from by simp[Zan];omega)]
def DOk (d:Dfn):Prop:=d.name.size<=maxLen/\I64 d.op/\d.a.size<=maxLen/\d.b.size<=maxLen/\I64 d.value.rows/\I64 d.value.cols
def ZaY (l:List Dfn):List (List Int):=l.map (·.value.cells)
@[simp] theorem Zqy (l:List Dfn):(ZaY l).length=l.length:=by simp[ZaY]
theorem Zkg (h:l[k]? =some d):(ZaY l)[k]? =some d.value.cells:=by simp[ZaY,h]
theorem Zhh (l r:List Dfn):ZaY (l++r)=ZaY l++ZaY r:=by simp[ZaY]
theorem ZmF (l:List Dfn) (k:Nat):ZaY (l.take k)=(ZaY l).take k:=by simp[ZaY,List.map_take]
structure RdD (w:World) (S:Nat->Prop) (a:Option Addr) (n cap:Nat) (l:List Dfn):Prop where
 row: ∃ ss:List Value,ss.length=l.length/\Row w S 7 a n cap (ZaO l ss)/\RdCells w S ss (ZaY l)
 len:l.length=n
 ok: ∀ d∈l,DOk d
theorem RdD.keep {a:Option Addr} (h:RdD w S a n cap l) (hk:Keep T w w') (hST: ∀ b,b<w.heap.size->S b->T b):RdD w' S a n cap l:=by
 obtain ⟨⟨ss,h0,h1,h2⟩,hl,ho⟩:=h;exact ⟨⟨ss,h0,h1.keep hk hST,h2.keep hk hST⟩,hl,ho⟩
theorem RdD.grow {a:Option Addr} (h:RdD w S a n cap l) (hk:Grow w w'):RdD w' S a n cap l:=h.keep hk fun _ _ _=>trivial
theorem RdD.weak {a:Option Addr} (h:RdD w S a n cap l) (hST: ∀ b,b<w.heap.size->S b->T b):RdD w T a n cap l:=by
 obtain ⟨⟨ss,h0,h1,h2⟩,hl,ho⟩:=h;exact ⟨⟨ss,h0,h1.weak hST,h2.weak hST⟩,hl,ho⟩
theorem RdD.cap_le {a:Option Addr} (h:RdD w S a n cap l):n<=cap/\cap<=maxLen:=by
 obtain ⟨⟨ss,h0,h1,h2⟩,hl,ho⟩:=h;exact ⟨h1.le,h1.max⟩
structure DAt (w:World) (b o:Nat) (d:Dfn) (s:Value):Prop where
 c0:w.cell? ⟨b,o,none⟩=some (.string d.name)
 c1:w.cell? ⟨b,o+1,none⟩=some (Yv Yi d.op)
 c2:w.cell? ⟨b,o+2,none⟩=some (.string d.a)
 c3:w.cell? ⟨b,o+3,none⟩=some (.string d.b)
 c4:w.cell? ⟨b,o+4,none⟩=some (Yv Yi d.value.rows)
 c5:w.cell? ⟨b,o+5,none⟩=some (Yv Yi d.value.cols)
 c6:w.cell? ⟨b,o+6,none⟩=some s
theorem DAt.keep {b:Nat} (h:DAt w b o d s) (hk:Keep S w w') (hS:S b):DAt w' b o d s:=
 ⟨hk.cell hS h.c0,hk.cell hS h.c1,hk.cell hS h.c2,hk.cell hS h.c3,hk.cell hS h.c4,hk.cell hS h.c5,hk.cell hS h.c6⟩
theorem DAt.grow {b:Nat} (h:DAt w b o d s) (hk:Grow w w'):DAt w' b o d s:=h.keep hk trivial
theorem DAt.of_blk (h:Blk w g (Zan d s).toArray t):DAt w g 0 d s:=
 ⟨h.cell 0,h.cell 1,h.cell 2,h.cell 3,h.cell 4,h.cell 5,h.cell 6⟩
theorem RdD.at {a:Option Addr} (h:RdD w S a n cap l) (hk:k<n):
  ∃ b off d a1 c1,a=some ⟨b,off,none⟩/\l[k]? =some d/\S b/\b<w.heap.size/\DAt w b (off+k*7) d (.slice a1 d.value.cells.length c1)/\RdI w S a1 d.value.cells.length c1 d.value.cells/\DOk d:=by
 obtain ⟨⟨ss,h0,h1,h2⟩,hl,ho⟩:=h;have hlt:k<l.length:=by omega
 have hk':l[k]? =some l[k]:=List.getElem?_eq_getElem hlt;obtain ⟨a1,c1,h3,h4⟩:=h2 _ _ (Zkg hk');obtain ⟨b,off,ha,hS,hc⟩:=h1.addr (by
  intro e;have:=Zhx (j:=0) hk' h3 (by omega);rw[e] at this;simp[Zan] at this)
 have key: ∀ j v,j<7->(Zan l[k] (.slice a1 l[k].value.cells.length c1))[j]? =some v->w.cell? ⟨b,off+k*7+j,none⟩=some v:=fun j v hj hv=>by rw[Nat.add_assoc];exact hc _ _ (by rw[Zhx hk' h3 hj];exact hv)
 have k0:=key 0 _ (by omega) rfl;exact ⟨b,off,l[k],a1,c1,ha,hk',hS,World.block_lt_of_cell? w _ k0,⟨k0,key 1 _ (by omega) rfl,key 2 _ (by omega) rfl,key 3 _ (by omega) rfl,key 4 _ (by omega) rfl,key 5 _ (by omega) rfl,key 6 _ (by omega) rfl⟩,h4,ho _ (List.getElem_mem hlt)⟩
theorem RdD.pre {a:Option Addr} (h:RdD w S a n cap l) (hk:k<=n):RdD w S a k cap (l.take k):=by
 obtain ⟨⟨ss,h0,h1,h2⟩,hl,ho⟩:=h;refine ⟨⟨ss.take k,by simp[h0],by rw[ZiX k h0];exact h1.pre hk,fun i xs hi=> ?_⟩,by simp;omega,fun d hd=>ho d (List.mem_of_mem_take hd)⟩;rw[ZmF,List.getElem?_take] at hi;split at hi
 ·rename_i hlt;obtain ⟨b,c,h3,h4⟩:=h2 i xs hi;exact ⟨b,c,by rw[List.getElem?_take,if_pos hlt];exact h3,h4⟩
 ·cases hi
structure SepD (w:World) (F:Nat->Prop) (a:Option Addr) (n cap:Nat) (l:List Dfn):Prop where
 own: ∃ ss,Own w 30 7 a n cap (ZaO l ss)/\Inner w F (blk a) ss (ZaY l)
 len:l.length=n
 ok: ∀ d∈l,DOk d
 lo: ∀ g,blk a=some g->F g
theorem SepD.keep {a:Option Addr} (h:SepD w F a n cap l) (hk:Keep T w w') (hT: ∀ b,b<w.heap.size->F b->T b):SepD w' F a n cap l:=by
 obtain ⟨⟨vs,h1,h2⟩,hl,ho,h3⟩:=h;exact ⟨⟨vs,h1.keep hk (fun g hg hlt=>hT g hlt (h3 g hg)),h2.keep hk (fun b hb hF _=>hT b hb hF)⟩,hl,ho,h3⟩
theorem SepD.grow {a:Option Addr} (h:SepD w F a n cap l) (hk:Grow w w'):SepD w' F a n cap l:=h.keep hk fun _ _ _=>trivial
theorem SepD.weak {G:Nat->Prop} {a:Option Addr} (h:SepD w F a n cap l) (hF: ∀ b,b<w.heap.size->F b->G b):SepD w G a n cap l:=by
 obtain ⟨⟨vs,h1,h2⟩,hl,ho,h3⟩:=h;exact ⟨⟨vs,h1,h2.weak fun b hb hFb hne=>⟨hF b hb hFb,hne⟩⟩,hl,ho,fun g hg=>hF g (h1.lt hg) (h3 g hg)⟩
theorem SepD.rdD {a:Option Addr} (h:SepD w F a n cap l) (hS: ∀ b,F b->S b):RdD w S a n cap l:=by
 obtain ⟨⟨vs,h1,h2⟩,hl,ho,h3⟩:=h;exact ⟨⟨vs,by have:=h2.len;simpa using this,h1.row fun g hg=>hS g (h3 g hg),h2.rdCells fun b hb _=>hS b hb⟩,hl,ho⟩
theorem Blk.seven {a b c d e f x:Value} (h:Blk w g #[a,b,c,d,e,f,x] t):
  (w.cell? ⟨g,0,none⟩=some a/\w.cell? ⟨g,1,none⟩=some b/\w.cell? ⟨g,2,none⟩=some c/\w.cell? ⟨g,3,none⟩=some d/\w.cell? ⟨g,4,none⟩=some e/\w.cell? ⟨g,5,none⟩=some f/\w.cell? ⟨g,6,none⟩=some x)/\w.frozen? ⟨g,0,none⟩=false:=
 ⟨⟨h.cell 0,h.cell 1,h.cell 2,h.cell 3,h.cell 4,h.cell 5,h.cell 6⟩,h.free 0⟩
theorem Zao:StT Tryz.prog 30 7:=⟨_,Tryz.underlying30,by kernel_rfl⟩
theorem T_defs:SlT Tryz.prog 24 30 (.agg #[.string ⟨#[]⟩,Yv Yi 0, .string ⟨#[]⟩, .string ⟨#[]⟩,Yv Yi 0,Yv Yi 0, .slice none 0 0]) 7 96:=SlT.mk' Tryz.underlying24 (by kernel_rfl) rfl
theorem StT.load7 (h:StT P ty 7) {b:Nat} (hd:DAt w b o d s):(loadVar ty ⟨b,o,none⟩).run P w= .ok (.agg (Zan d s).toArray) w:=by
 obtain ⟨fs,hu,hi⟩:=h;obtain ⟨i,hi',hs⟩:=Option.map_eq_some_iff.1 hi;have hg:(isAgg ty).run P w= .ok true w:=by simp[isAgg,run_underlying hu]
 have hsz:(sizeOf ty).run P w= .ok 7 w:=by simp[sizeOf,typeInfo,hi',hs]
 have hl:=run_loadCells_list (P:=P) (w:=w) ⟨b,o,none⟩ (Zan d s) (fun j x hj=>by
  match j,hj with
  |0,hj=>simp[Zan] at hj;subst hj;simpa [Addr.add] using hd.c0
  |1,hj=>simp[Zan] at hj;subst hj;simpa [Addr.add] using hd.c1
  |2,hj=>simp[Zan] at hj;subst hj;simpa [Addr.add] using hd.c2
  |3,hj=>simp[Zan] at hj;subst hj;simpa [Addr.add] using hd.c3
  |4,hj=>simp[Zan] at hj;subst hj;simpa [Addr.add] using hd.c4
  |5,hj=>simp[Zan] at hj;subst hj;simpa [Addr.add] using hd.c5
  |6,hj=>simp[Zan] at hj;subst hj;simpa [Addr.add] using hd.c6
  |j+7,hj=>simp[Zan] at hj)
 simp only[show (Zan d s).length=7 from rfl] at hl;simp[loadVar,hg,hsz,hl]
theorem ZH {C:World->Prop} {o:Oper} {a:Act} {K:Act->Prop} {x:Operand} {b j:Nat} (hty:StT P ty 7) (ho:o.op= .load ty x) (hx:a.eval x= .pointer (some ⟨b,j,none⟩))
  (hv: ∀ w',C w'->DAt w' b j d s) (hk:K (a.put o.dst (.agg #[.string d.name,Yv Yi d.op, .string d.a, .string d.b,Yv Yi d.value.rows,Yv Yi d.value.cols,s]))):o.quiet P a C K:=by
 refine ⟨.agg (Zan d s).toArray,fun w hw=> ?_,hk⟩;have h:=hty.load7 (hv w hw);unfold Oper.quietAt execOp;simp[ho,hx,Instr.loadAt,Instr.sureAddr,h,Oper.quietUpon]
def VDD (w:World) (S:Nat->Prop) (v:Value) (l:List Dfn):Prop:= ∃ a n c,v= .slice a n c/\RdD w S a n c l
def ODD (w:World) (F:Nat->Prop) (v:Value) (l:List Dfn):Prop:= ∃ a n c,v= .slice a n c/\SepD w F a n c l
def VD (w:World) (S:Nat->Prop) (v:Value) (d:Dfn):Prop:= ∃ a n c,v= .agg #[.string d.name,Yv Yi d.op, .string d.a, .string d.b,Yv Yi d.value.rows,Yv Yi d.value.cols, .slice a n c]/\RdI w S a n c d.value.cells/\DOk d
def OD (w:World) (F:Nat->Prop) (v:Value) (d:Dfn):Prop:= ∃ a n c,v= .agg #[.string d.name,Yv Yi d.op, .string d.a, .string d.b,Yv Yi d.value.rows,Yv Yi d.value.cols, .slice a n c]/\Own w 3 1 a n c (ints d.value.cells)/\(∀ x∈d.value.cells,I64 x)/\(∀ g,blk a=some g->F g)/\DOk d
def bdD (d:Dfn):Nat:=d.name.size+d.a.size+d.b.size+d.value.cells.length
def ZcD (l:List Dfn):Nat:=(l.map bdD).sum
def ZbQ (l:List Dfn):Nat:=l.length+ZcD l
@[simp] theorem ZqD:ZcD []=0:=rfl
@[simp] theorem Zqw (d:Dfn) (l:List Dfn):ZcD (d::l)=bdD d+ZcD l:=by simp[ZcD]
theorem Zel (l r:List Dfn):ZcD (l++r)=ZcD l+ZcD r:=by simp[ZcD]
theorem ZfL (h:l[k]? =some d):ZcD (l.take (k+1))=ZcD (l.take k)+bdD d/\ZcD (l.take k)+bdD d<=ZcD l:=by
 have h1:ZcD (l.take (k+1))=ZcD (l.take k)+bdD d:=by rw[Z8 h,Zel];simp
 refine ⟨h1, ?_⟩;rw[←h1]
 conv=>rhs;rw[←List.take_append_drop (k+1) l]
 rw[Zel];omega
theorem ODD.rd (h:ODD w F v l) (hS: ∀ b,F b->S b):VDD w S v l:=by
 obtain ⟨a,n,c,rfl,h⟩:=h;exact ⟨a,n,c,rfl,h.rdD hS⟩
theorem OD.rd (h:OD w F v d) (hS: ∀ b,F b->S b):VD w S v d:=by
 obtain ⟨a,n,c,rfl,h1,h2,h3,ho⟩:=h;exact ⟨a,n,c,rfl,h1.rdI (fun g hg=>hS g (h3 g hg)) h2,ho⟩
def dset (l:List Value) (o:Nat) (d:Dfn) (s:Value):List Value:=
 (((((((l.set o (.string d.name)).set (o+1) (Yv Yi d.op)).set (o+2) (.string d.a)).set (o+3) (.string d.b)).set (o+4) (Yv Yi d.value.rows)).set (o+5) (Yv Yi d.value.cols)).set (o+6) s)
theorem Zlu {l r:List Value} (h:l.length<=o):dset (l++r) o d s=l++dset r (o-l.length) d s:=by
 unfold dset;rw[List.set_append_right _ _ (by omega),List.set_append_right _ _ (by omega),List.set_append_right _ _ (by omega),List.set_append_right _ _ (by omega),List.set_append_right _ _ (by omega),List.set_append_right _ _ (by omega),List.set_append_right _ _ (by omega)];rw[show o+1-l.length=o-l.length+1 from by omega,show o+2-l.length=o-l.length+2 from by omega,show o+3-l.length=o-l.length+3 from by omega,show o+4-l.length=o-l.length+4 from by omega,show o+5-l.length=o-l.length+5 from by omega,show o+6-l.length=o-l.length+6 from by omega]
theorem Zka: ∀ {l:List Dfn} {ss:List Value} {k:Nat} {d:Dfn} {s:Value},ss.length=l.length->k<l.length->dset (ZaO l ss) (k*7) d s=ZaO (l.set k d) (ss.set k s)
 |[],_,k,d,s,_,h=>by simp at h
 |_::_,[],k,d,s,h,_=>by simp at h
 |d'::l,s'::ss,0,d,s,h,_=>by simp only[ZaO,Zan,List.set_cons_zero,Nat.zero_mul,dset,List.cons_append,List.set_cons_succ,Nat.zero_add,List.nil_append]
 |d'::l,s'::ss,k+1,d,s,h,hk=>by simp only[ZaO,List.set_cons_succ];have hl:(Zan d' s').length=7:=rfl;rw[Zlu (by rw[hl];omega),hl,show (k+1)*7-7=k*7 from by omega,Zka (by simpa using h) (by simpa using hk)]
theorem Own.dset {e:TypeId} {p:Addr} {L:List Dfn} {ss:List Value} (h:Own w e 7 (some p) n cap (ZaO L ss)) (hl:ss.length=L.length) (hk:k<L.length):
  Own (((((((w.setCell ⟨p.block,k*7,none⟩ (.string d.name)).setCell ⟨p.block,k*7+1,none⟩ (Yv Yi d.op)).setCell ⟨p.block,k*7+2,none⟩ (.string d.a)).setCell ⟨p.block,k*7+3,none⟩ (.string d.b)).setCell ⟨p.block,k*7+4,none⟩ (Yv Yi d.value.rows)).setCell ⟨p.block,k*7+5,none⟩ (Yv Yi d.value.cols)).setCell ⟨p.block,k*7+6,none⟩ s) e 7 (some p) n cap (ZaO (L.set k d) (ss.set k s)):=by
 rw[←Zka hl hk];exact ((((((h.set _ _).set _ _).set _ _).set _ _).set _ _).set _ _).set _ _
def Zj (l:List Dfn) (s:ByteArray):Int:=firstIdx (fun d=>d.name.toList==s.toList) l
theorem Zbb (a:Option Addr) (n cap:Nat) (l:List Dfn) (s:ByteArray) (w:World) (h:RdD w S a n cap l) (hn:n<=2097152):
  Calls Tryz.prog 40 #[.slice a n cap, .string s] w fun e w'=>e= .returned (Yv Yi (Zj l s))/\w=w':=by
 have Hl:=hid h.len;go_enter Tryz.func40,Tryz.ntmps40;go_wp2;go_loop [5] (fun i=> ∃ k:Nat,k<=n/\i=Yv Yi k/\ ∀ d∈l.take k,(d.name.toList==s.toList)=false) (fun i=>n-(intOf i).toNat);case atStart=>exact ⟨0,Nat.zero_le _,rfl,by simp⟩
 case round=>
  obtain ⟨k,hk,rfl,he⟩:=hrel;have He:=hid he;clear he;by_cases hlt:k<n
  ·obtain ⟨b,off,d,a1,c1,rfl,hx,_,hbw,⟨e0, -, -, -, -, -, -⟩, -, -⟩:=h.at hlt;have Hx:=hid hx;clear hx;cases hd:d.name.toList==s.toList with
   |true=>go_wp2;go_ret;exact ⟨ZU (ZcP He.out Hx.out hd).symm,rfl⟩
   |false=>
    go_wp2
    go_round
    case rel=>
     refine ⟨k+1,by omega,by go_num,fun z hz=> ?_⟩;rw[Z8 Hx.out,List.mem_append,List.mem_singleton] at hz;rcases hz with hz|rfl
     ·exact He.out z hz
     ·exact hd
    case measure=>simp[intOf];omega
  ·go_wp2;go_ret;have:k=n:=(by omega);subst this;have:=He.out;rw[ZaN Hl.out] at this;exact ⟨ZU (Zes this).symm,rfl⟩
theorem ZjD (s:ByteArray) (d:Dfn) (sv:Value) (g:Nat) (w:World) (hg:w.cell? ⟨g,0,none⟩=some (.string s)):
  Calls Tryz.prog 69 #[.agg #[.string d.name,Yv Yi d.op, .string d.a, .string d.b,Yv Yi d.value.rows,Yv Yi d.value.cols,sv], .pointer (some ⟨g,0,none⟩)] w fun e w'=>e= .returned (.bool (d.name.toList==s.toList))/\Grow w w':=by
 have hG:Grow w (w.alloc (.cells #[.string d.name,Yv Yi d.op, .string d.a, .string d.b,Yv Yi d.value.rows,Yv Yi d.value.cols,sv] 30)):=(Grow.refl w).alloc _ _;have hg':=hG.cell hg;go_enter Tryz.func69,Tryz.ntmps69;go_wp2;go_ret;exact ⟨rfl,hG⟩
theorem Zlv (a:Option Addr) (n cap g:Nat) (l:List Dfn) (s:ByteArray) (w:World) (h:RdD w S a n cap l) (hg:w.cell? ⟨g,0,none⟩=some (.string s)) (hn:n<=2097152):
  Calls Tryz.prog 68 #[.slice a n cap, .func (.func 69) #[] #[.pointer (some ⟨g,0,none⟩)]] w fun e w'=>e= .returned (Yv Yi (Zj l s))/\Grow w w':=by
 have Hl:=hid h.len;go_enter Tryz.func68,Tryz.ntmps68;go_wp2;go_loopw [8] (fun i wr=>Grow w wr/\ ∃ k:Nat,k<=n/\i=Yv Yi k/\ ∀ d∈l.take k,(d.name.toList==s.toList)=false) (fun i _=>n-(intOf i).toNat);case atStart=>exact ⟨Grow.refl _,0,Nat.zero_le _,rfl,by simp⟩
 case round=>
  obtain ⟨hG,k,hk,rfl,he⟩:=hrel;have He:=hid he;clear he;by_cases hlt:k<n
  ·obtain ⟨b,off,d,a1,c1,rfl,hx,_,hbw,⟨e0,e1,e2,e3,e4,e5,e6⟩, -, -⟩:=(h.grow hG).at hlt;have Hx:=hid hx;clear hx;go_wp2_with fail;refine (ZjD s d _ g _ (hG.cell hg)).mono ?_;rintro e w' ⟨rfl,hG1⟩;cases hd:d.name.toList==s.toList with
   |true=>go_wp2;go_ret;exact ⟨ZU (ZcP He.out Hx.out hd).symm,hG.trans hG1⟩
   |false=>
    go_wp2;go_roundw;case rel=>
     refine ⟨hG.trans hG1,k+1,by omega,by go_num,fun z hz=> ?_⟩;rw[Z8 Hx.out,List.mem_append,List.mem_singleton] at hz;rcases hz with hz|rfl
     ·exact He.out z hz
     ·exact hd
    case measure=>simp[intOf];omega
  ·go_wp2;go_ret;have:k=n:=(by omega);subst this;have:=He.out;rw[ZaN Hl.out] at this;exact ⟨ZU (Zes this).symm,hG⟩
theorem ZcJ (a:Option Addr) (n cap:Nat) (l:List Dfn) (s:ByteArray) (w:World) (h:RdD w S a n cap l) (hn:n<=2097152):
  Calls Tryz.prog 42 #[.slice a n cap, .string s] w fun e w'=>e= .returned (Yv Yi (Zj l s))/\Grow w w':=by
 have hG:Grow w (w.alloc (.cells #[.string s] 9)):=(Grow.refl w).alloc _ _;have hb:(w.alloc (.cells #[.string s] 9)).cell? ⟨w.heap.size,0,none⟩=some (.string s):=(Blk.new w #[.string s] 9).cell 0;go_enter Tryz.func42,Tryz.ntmps42;go_wp2_with fail;refine (Zlv _ _ _ w.heap.size l s _ (h.grow hG) hb hn).mono ?_;rintro e w1 ⟨rfl,hG1⟩;go_wp2;go_ret;exact ⟨rfl,hG.trans hG1⟩

end Go.Proofs.YtgeoehnbpkediaaGreat
