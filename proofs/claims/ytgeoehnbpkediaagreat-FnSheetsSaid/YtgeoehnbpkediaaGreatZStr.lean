/- Strings: equality of bytes; lists without repeats. -/
import Derived.Test.YtgeoehnbpkediaaGreatZIsName
set_option maxHeartbeats 8000000
set_option maxRecDepth 100000
namespace Go.Proofs.YtgeoehnbpkediaaGreat
open Go.RowKit
variable {F S:Nat->Prop} {L l:List Dfn} {a a1 am:Option Addr} {cap cm g i j k n sz:Nat} {cs:Array Value} {d:Dfn} {e:TypeId} {name s x:ByteArray} {out:List ByteArray} {ss:List Value} {w w' w0 w2:World} {xss:List (List Int)}
theorem Zln (bs:ByteArray): ∀ (n i:Nat) (r:List UInt8),bs.size-i=n->ByteArray.toList.loop bs i r=r.reverse++bs.data.toList.drop i:=by
 intro n;induction n with
 |zero=>intro i r h;unfold ByteArray.toList.loop;rw[if_neg (by omega),List.drop_of_length_le (by simp only[Array.length_toList];show bs.size<=i;omega)];simp
 |succ n ih=>
  intro i r h;unfold ByteArray.toList.loop;have hi:i<bs.data.toList.length:=by simp only[Array.length_toList];show i<bs.size;omega
  rw[if_pos (by omega),ih (i+1) _ (by omega),List.drop_eq_getElem_cons hi];have:bs.get! i=bs.data.toList[i]:=by show bs.data[i]! =_;rw[getElem!_pos bs.data i (by simpa using hi)];simp
  simp[this]
theorem toList_data (s:ByteArray):s.toList=s.data.toList:=by
 unfold ByteArray.toList;rw[Zln s s.size 0 [] rfl];simp
theorem toList_inj {a b:ByteArray} (h:a.toList=b.toList):a=b:=by
 rw[toList_data,toList_data] at h;exact Go.WideShapes.bytes_inj h
theorem Zev (s t:ByteArray):(s.toList==t.toList)=decide (s=t):=by
 rw[Bool.eq_iff_iff,beq_iff_eq,decide_eq_true_eq];exact ⟨toList_inj,fun h=>by rw[h]⟩
theorem ZkB:s.toList.isEmpty=decide (s.size=0):=by
 have e:s.data.toList.length=s.size:=by rw[Array.length_toList];rfl
 rw[toList_data,Bool.eq_iff_iff,List.isEmpty_iff,decide_eq_true_eq, ←e,List.length_eq_zero_iff]
theorem ZhR {α:Type} [DecidableEq α]: ∀ {l r:List α},l.Nodup->(∀ x∈l,x∈r)->l.length<=r.length
 |[],_,_,_=>Nat.zero_le _
 |x::l,r,hn,hs=>by rw[List.nodup_cons] at hn;have hx:=hs x (by simp);have:=ZhR (l:=l) (r:=r.erase x) hn.2 (fun y hy=>(List.mem_erase_of_ne (fun e=>hn.1 (by rw[←e];exact hy))).2 (hs y (by simp[hy])));rw[List.length_erase_of_mem hx] at this;have h0:0<r.length:=List.length_pos_of_mem hx;simp;omega
def Zap (d:Dfn) (x:ByteArray):Bool:=decide (d.a=x)||decide (d.b=x)
def Za7 (out:List ByteArray) (x:ByteArray):Bool:=out.any fun s=>decide (s=x)
theorem Zdt:Za7 out x=true↔x∈out:=by
 unfold Za7;rw[List.any_eq_true];exact ⟨fun ⟨s,hs,h⟩=>by rw[decide_eq_true_eq] at h;rw[←h];exact hs,fun h=>⟨x,h,by simp⟩⟩
def Za2 (x:ByteArray) (out:List ByteArray) (d:Dfn):List ByteArray:=if Zap d x&& !Za7 out d.name then out++[d.name] else out
def Zar (l:List Dfn) (x:ByteArray) (out:List ByteArray) (k:Nat):List ByteArray:=(l.take k).foldl (Za2 x) out
def ZbR (l:List Dfn) (out:List ByteArray) (i:Nat):List ByteArray:=match out[i]? with
 |some x=>l.foldl (Za2 x) out
 |none=>out
def Z4 (l:List Dfn) (name:ByteArray):Nat->List ByteArray
 |0=>[name]
 |i+1=>ZbR l (Z4 l name i) i
def ZW (l:List Dfn) (name:ByteArray):List ByteArray:=if Zp l&&decide (0<=Zj l name) then Z4 l name l.length else []
def DepOk (l:List Dfn) (out:List ByteArray):Prop:=out.Nodup/\ ∀ s∈out,s∈l.map (·.name)
theorem DepOk.len (h:DepOk l out):out.length<=l.length:=by
 have:=ZhR h.1 h.2;simpa using this
theorem ZmP (h:DepOk l out) (hd:d∈l):DepOk l (Za2 x out d):=by
 unfold Za2;split
 ·rename_i hc;rw[Bool.and_eq_true,Bool.not_eq_true',Bool.eq_false_iff,ne_eq,Zdt] at hc;refine ⟨List.nodup_append.2 ⟨h.1,by simp, ?_⟩,fun s hs=> ?_⟩
  ·intro a ha b hb e;rw[List.mem_singleton] at hb;subst hb;subst e;exact hc.2 ha
  ·rw[List.mem_append,List.mem_singleton] at hs;rcases hs with hs|rfl
   ·exact h.2 s hs
   ·exact List.mem_map.2 ⟨d,hd,rfl⟩
 ·exact h
theorem Zlt: ∃ r,Za2 x out d=out++r:=by
 unfold Za2;split
 ·exact ⟨_,rfl⟩
 ·exact ⟨[],by simp⟩
theorem ZhX {l:List Dfn} {x:ByteArray}: ∀ (r:List Dfn) {out:List ByteArray},DepOk l out->(∀ d∈r,d∈l)->DepOk l (r.foldl (Za2 x) out)
 |[],_,h,_=>h
 |d::r,out,h,hr=>ZhX r (ZmP h (hr d (by simp))) fun d hd=>hr d (by simp[hd])
theorem Zez {x:ByteArray}: ∀ (r:List Dfn) (out:List ByteArray), ∃ q,r.foldl (Za2 x) out=out++q
 |[],out=>⟨[],by simp⟩
 |d::r,out=>by obtain ⟨q,hq⟩:=Zlt (x:=x) (out:=out) (d:=d);obtain ⟨q',hq'⟩:=Zez (x:=x) r (Za2 x out d);exact ⟨q++q',by rw[List.foldl_cons,hq',hq,List.append_assoc]⟩
theorem ZkA (h:DepOk l out) (k:Nat):DepOk l (Zar l x out k):=ZhX _ h fun _ hd=>List.mem_of_mem_take hd
theorem Zns (l:List Dfn) (x:ByteArray) (out:List ByteArray) (k:Nat): ∃ q,Zar l x out k=out++q:=Zez _ _
theorem ZbB (h:l[k]? =some d):Zar l x out (k+1)=Za2 x (Zar l x out k) d:=by
 unfold Zar;rw[Z8 h,List.foldl_append];rfl
theorem Zjl (hx:out[i]? =some x):Zar l x out l.length=ZbR l out i:=by
 unfold Zar ZbR;rw[hx,List.take_length]
theorem Zf3 {y:ByteArray} (k:Nat) (hx:out[i]? =some y):(Zar l x out k)[i]? =some y:=by
 obtain ⟨q,hq⟩:=Zns l x out k;rw[hq,List.getElem?_append_left (List.getElem?_eq_some_iff.1 hx).1,hx]
theorem Zed {l:List Dfn} {name:ByteArray} (h:0<=Zj l name): ∀ i,DepOk l (Z4 l name i)
 |0=>by refine ⟨by simp[Z4],fun s hs=> ?_⟩;simp only[Z4,List.mem_singleton] at hs;subst hs;unfold Zj at h;rw[ZaT,List.any_eq_true] at h;obtain ⟨d,hd,he⟩:=h;rw[Zev,decide_eq_true_eq] at he;exact List.mem_map.2 ⟨d,hd,he⟩
 |i+1=>by
  have ih:=Zed h i;simp only[Z4,ZbR];split
  ·exact ZhX l ih fun _ h=>h
  ·exact ih
theorem ZgH {l:List Dfn} {name:ByteArray} {i:Nat} (hi:(Z4 l name i).length<=i): ∀ j,Z4 l name (i+j)=Z4 l name i
 |0=>rfl
 |j+1=>by rw[show i+(j+1)=(i+j)+1 from rfl];simp only[Z4,ZbR];rw[ZgH hi j,List.getElem?_eq_none (by omega)]
theorem Zh9 (hs:Zp l=true) (hn:0<=Zj l name) (hi:(Z4 l name i).length<=i) (hil:i<=l.length):Z4 l name i=ZW l name:=by
 unfold ZW;rw[hs,decide_eq_true hn];have:=ZgH hi (l.length-i);rw[show i+(l.length-i)=l.length from by omega] at this;exact this.symm
theorem Zfu (h:(Zp l&&decide (0<=Zj l name))=false):ZW l name=[]:=by unfold ZW;rw[h];rfl
theorem ZoG (h:Zbh d=true) (hx:1<=x.size):(!decide (d.op=0)&&Zap d x)=Zap d x:=by
 by_cases h0:d.op=0
 ·have:Zap d x=false:=by unfold Zbh at h;rw[if_pos h0,ZkB,ZkB] at h;simp only[Bool.and_eq_true,decide_eq_true_eq] at h;unfold Zap;rw[decide_eq_false (fun e=>by rw[←e] at hx;omega),decide_eq_false (fun e=>by rw[←e] at hx;omega)];rfl
  rw[this];simp
 ·rw[decide_eq_false h0];rfl
theorem Zja (h:Zp l=true) (hd:d∈l):Zbh d=true:=by
 unfold Zp at h;rw[Bool.and_eq_true,List.all_eq_true] at h;obtain ⟨k,hk,he⟩:=List.mem_iff_getElem.1 hd;have:=h.1 k (List.mem_range.2 hk);unfold ZaB at this;rw[List.getElem?_eq_getElem hk,he,Bool.and_eq_true] at this;exact this.1
theorem Zod (h:Zbh d=true):1<=d.name.size:=by
 unfold Zbh at h;rw[Bool.and_eq_true] at h;exact ((ZcM _).1 h.1).2.1
theorem Zos (hs:Zp l=true) (h:DepOk l out) (hx:out[i]? =some x):1<=x.size:=by
 obtain ⟨d,hd,rfl⟩:=List.mem_map.1 (h.2 x (List.mem_of_getElem? hx));exact Zod (Zja hs hd)
theorem Zfm (h:Zp l=true):l.length<=12:=by
 unfold Zp at h;rw[Bool.and_eq_true,decide_eq_true_eq] at h;exact h.2
def strs (l:List ByteArray):List Value:=l.map .string
@[simp] theorem ZqG (l:List ByteArray):(strs l).length=l.length:=by simp[strs]
theorem Zhs {l:List ByteArray} (h:l[k]? =some s):(strs l)[k]? =some (.string s):=by simp[strs,h]
theorem Zfx (l r:List ByteArray):strs (l++r)=strs l++strs r:=by simp[strs]
structure RdS (w:World) (S:Nat->Prop) (a:Option Addr) (n cap:Nat) (l:List ByteArray):Prop where
 row:Row w S 1 a n cap (strs l)
 len:l.length=n
theorem RdS.keep {T:Nat->Prop} {l:List ByteArray} (h:RdS w S a n cap l) (hk:Keep T w w') (hST: ∀ b,b<w.heap.size->S b->T b):RdS w' S a n cap l:=⟨h.row.keep hk hST,h.len⟩
theorem RdS.grow {l:List ByteArray} (h:RdS w S a n cap l) (hk:Grow w w'):RdS w' S a n cap l:=h.keep hk fun _ _ _=>trivial
theorem RdS.at {l:List ByteArray} (h:RdS w S a n cap l) (hk:k<n):
  ∃ b off s,a=some ⟨b,off,none⟩/\l[k]? =some s/\S b/\b<w.heap.size/\w.cell? ⟨b,off+k,none⟩=some (.string s):=by
 have hlt:k<l.length:=by have:=h.len;omega
 have hk':l[k]? =some l[k]:=List.getElem?_eq_getElem hlt;obtain ⟨b,off,ha,hS,hc⟩:=h.row.addr (by intro e;have:=Zhs hk';rw[e] at this;simp at this);have h0:=hc _ _ (Zhs hk');exact ⟨b,off,l[k],ha,hk',hS,World.block_lt_of_cell? w _ h0,h0⟩
theorem Own.rdS {l:List ByteArray} (h:Own w e 1 a n cap (strs l)) (hS: ∀ g,blk a=some g->S g):RdS w S a n cap l:=⟨h.row hS,by simpa using h.len⟩
def OSS (w:World) (F:Nat->Prop) (v:Value) (l:List ByteArray):Prop:= ∃ a n c,v= .slice a n c/\Own w 9 1 a n c (strs l)/\ ∀ g,blk a=some g->F g
theorem Zid:SlT Tryz.prog 36 9 (.string ⟨#[]⟩) 1 16:=SlT.mk' Tryz.underlying36 (by kernel_rfl) rfl
def Zqm:Nat->Nat->ByteArray->ByteArray
 |0,_,acc=>acc
 |f+1,k,acc=>if k=0 then acc else Zqm f (k/10) (strOfNums [48+(k:Int)%10]++acc)
def ZjN (k:Nat):ByteArray:=⟨#[109]⟩++Zqm k k ⟨#[]⟩
def Zqk (l:List ByteArray) (k:Nat):List ByteArray:=(List.range l.length).map fun i=>ZjN (k+i)
@[simp] theorem ZqE (l:List ByteArray) (k:Nat):(Zqk l k).length=l.length:=by simp[Zqk]
def ZqI (d:Dfn) (k:Nat):Dfn:=⟨ZjN k,(k:Int)+1,ZjN (k+2),ZjN (k+3),⟨(k:Int)+1+1+1+1,(k:Int)+1+1+1+1+1,ZjK d.value.cells.length (k+6)⟩⟩
def ZmB (d:Dfn):Nat:=6+d.value.cells.length
def ZoJ:List Dfn->Nat->List Dfn
 |[],_=>[]
 |d::r,k=>ZqI d k::ZoJ r (k+ZmB d)
def ZjM (l:List Dfn):Nat:=(l.map ZmB).sum
@[simp] theorem Zpa: ∀ (l:List Dfn) (k:Nat),(ZoJ l k).length=l.length
 |[],_=>rfl
 |d::r,k=>by simp[ZoJ,Zpa r]
@[simp] theorem Zqx:ZjM []=0:=rfl
@[simp] theorem Zqu (d:Dfn) (l:List Dfn):ZjM (d::l)=ZmB d+ZjM l:=by simp[ZjM]
theorem Own.has {p:Addr} {cs:List Value} (h:Own w e sz (some p) n cap cs) (hj:j<cs.length): ∃ c,w.cell? ⟨p.block,j,none⟩=some c:=⟨_,h.cell (List.getElem?_eq_getElem hj)⟩
theorem Znp (l:List Dfn) (j:Nat) (d:Dfn):ZaY (l.set j d)=(ZaY l).set j d.value.cells:=by unfold ZaY;rw[List.map_set]
def Zn (l:List Dfn) (d:Dfn):List Dfn:=if 0<=Zj l d.name then l.set (Zj l d.name).toNat d else l++[d]
def Zy (l:List Dfn) (d:Dfn):List Dfn×Bool:=if Zp l&&Zp (Zn l d) then (Zn l d,true) else ([],false)
theorem ZhE {x:Dfn} (h:x∈Zn l d):x∈l\/x=d:=by
 unfold Zn at h;split at h
 ·exact List.mem_or_eq_of_mem_set h
 ·simpa using h
theorem Zeu:Zj l s<l.length:=(Zce _ l).2
theorem Zlq (l:List Dfn) (d:Dfn):(Zn l d).length<=l.length+1:=by
 unfold Zn;split<;>simp
theorem Zba (h:(Zp l&&Zp (Zn l d))=false):Zy l d=([],false):=by unfold Zy;rw[h];rfl
theorem ZbI (h1:Zp l=true) (h2:Zp (Zn l d)=true):Zy l d=(Zn l d,true):=by unfold Zy;rw[h1,h2];rfl
theorem Row.builtAt (n:Nat) (hg:g=w.heap.size) (hn:n<=maxLen) (hs:cs.size=n*sz) (hS: ∀ b,S b):Row (w.alloc (.cells cs e)) S sz (some ⟨g,0,none⟩) n n cs.toList:=by
 subst hg;exact Row.built n hn hs (hS _)
theorem Inner.repl {g:Option Nat} {vs:List Value} (h:Inner w F g vs xss) {b:Option Addr} {c:Nat} {xs:List Int} (ho:Own w 3 1 b xs.length c (ints xs)) (hr: ∀ x∈xs,I64 x)
  (hb: ∀ q,blk b=some q->F q/\g≠some q) (hnew: ∀ q,blk b=some q-> ∀ v∈vs,v.ownBlock≠some q):Inner w F g (vs.set j (.slice b xs.length c)) (xss.set j xs):=by
 refine ⟨by simp[h.len],fun i zs hi=> ?_, ?_⟩
 ·by_cases hij:j=i
  ·subst hij;obtain ⟨hj,_⟩:=List.getElem?_eq_some_iff.1 hi;simp only[List.length_set] at hj;rw[List.getElem?_set_self hj] at hi;obtain rfl:=Option.some.inj hi;exact ⟨b,c,by rw[List.getElem?_set_self (by rw[h.len];exact hj)],ho,hr,hb⟩
  ·rw[List.getElem?_set_ne hij] at hi;obtain ⟨b',c',h1,h2⟩:=h.each i zs hi;exact ⟨b',c',by rw[List.getElem?_set_ne hij];exact h1,h2⟩
 ·rw[List.pairwise_iff_getElem];intro p q hp hq hpq u hu;simp only[List.length_set] at hp hq;rw[List.getElem_set] at hu ⊢;split at hu
  ·rename_i e;rw[if_neg (by omega)];rw[Zbl] at hu;exact hnew u hu _ (List.getElem_mem hq)
  ·split
   ·rw[Zbl];intro e;exact hnew u e _ (List.getElem_mem hp) hu
   ·exact List.pairwise_iff_getElem.1 h.apart p q hp hq hpq u hu
def Fresh (w0:World) (a1 am:Option Addr) (ss:List Value):Prop:= ∀ q,blk am=some q->w0.heap.size<=q/\blk a1≠some q/\ ∀ v∈ss,v.ownBlock≠some q
theorem Fresh.mk' {wr:World} {G:Nat->Prop} (hI:Inner wr G (blk a1) ss xss) (hlo: ∀ g,blk a1=some g->g<wr.heap.size) (h0:w0.heap.size<=wr.heap.size) (hf: ∀ q,blk am=some q->wr.heap.size<=q):Fresh w0 a1 am ss:=
 fun q hq=>⟨by have:=hf q hq;omega,fun e=>by have:=hlo q e;have:=hf q hq;omega,fun v hv e=>by have:=(hI.lt hv e).1;have:=hf q hq;omega⟩
theorem SepD.app {w3:World} {a3:Option Addr} {c3:Nat} (hI:Inner w2 (New w0 w2) (blk a1) ss (ZaY L)) (hl:L.length=k) (hok: ∀ x∈L,DOk x) (hlo: ∀ g,blk a1=some g->New w0 w2 g)
  (om:Own w2 3 1 am d.value.cells.length cm (ints d.value.cells)) (hr: ∀ x∈d.value.cells,I64 x) (hd:DOk d) (hfresh:Fresh w0 a1 am ss) (h0:w0.heap.size<=w2.heap.size)
  (hA:Apped w2 w3 30 7 a1 a3 (k+1) c3 (ZaO L ss++Zan d (.slice am d.value.cells.length cm))):SepD w3 (New w0 w3) a3 (k+1) c3 (L++[d]):=by
 have hss:ss.length=L.length:=by have:=hI.len;simpa using this
 have hs3:=hA.keep.size;have hl3:=hA.lo (B:=w0.heap.size) (by omega) (fun g hg=>(hlo g hg).1);refine ⟨⟨ss++[.slice am d.value.cells.length cm], ?_, ?_⟩,by simp[hl],fun x hx=> ?_,fun g hg=>⟨hl3 g hg,hA.own.lt hg⟩⟩
 ·rw[Zfz hss,Zkr];exact hA.own
 ·have h1:=hI.snoc om hr (fun q hq=>⟨⟨(hfresh q hq).1,om.lt hq⟩,(hfresh q hq).2.1⟩) (fun q hq v hv hvq=>(hfresh q hq).2.2 v hv hvq);rw[Zhh];refine h1.move (G:=New w0 w3) (g':=blk a3) hA.keep fun b hb hF hne=>⟨hne,⟨hF.1,by omega⟩,fun e=> ?_⟩;rcases hA.new with e2|⟨g',e2,hg'⟩
  ·rw[e2] at e;exact hne e
  ·rw[e2] at e;obtain rfl:=Option.some.inj e;omega
 ·rcases List.mem_append.1 hx with hx|hx
  ·exact hok x hx
  ·rw[List.mem_singleton] at hx;subst hx;exact hd
theorem SepD.put {c1:Nat} (hO:Own w2 30 7 (some ⟨g,0,none⟩) n c1 (ZaO L ss)) (hI:Inner w2 (New w0 w2) (some g) ss (ZaY L)) (hl:L.length=n) (hok: ∀ x∈L,DOk x) (hlo:New w0 w2 g)
  (om:Own w2 3 1 am d.value.cells.length cm (ints d.value.cells)) (hr: ∀ x∈d.value.cells,I64 x) (hd:DOk d) (hfresh:Fresh w0 (some ⟨g,0,none⟩) am ss) (hk:k<L.length):
  SepD (((((((w2.setCell ⟨g,k*7,none⟩ (.string d.name)).setCell ⟨g,k*7+1,none⟩ (.int .i64 d.op)).setCell ⟨g,k*7+2,none⟩ (.string d.a)).setCell ⟨g,k*7+3,none⟩ (.string d.b)).setCell ⟨g,k*7+4,none⟩ (.int .i64 d.value.rows)).setCell ⟨g,k*7+5,none⟩ (.int .i64 d.value.cols)).setCell ⟨g,k*7+6,none⟩ (.slice am d.value.cells.length cm)) (New w0 w2) (some ⟨g,0,none⟩) n c1 (L.set k d)/\
  Keep (fun q=>q≠g) w2 (((((((w2.setCell ⟨g,k*7,none⟩ (.string d.name)).setCell ⟨g,k*7+1,none⟩ (.int .i64 d.op)).setCell ⟨g,k*7+2,none⟩ (.string d.a)).setCell ⟨g,k*7+3,none⟩ (.string d.b)).setCell ⟨g,k*7+4,none⟩ (.int .i64 d.value.rows)).setCell ⟨g,k*7+5,none⟩ (.int .i64 d.value.cols)).setCell ⟨g,k*7+6,none⟩ (.slice am d.value.cells.length cm)):=by
 have hss:ss.length=L.length:=by have:=hI.len;simpa using this
 have hK:Keep (fun q=>q≠g) w2 (((((((w2.setCell ⟨g,k*7,none⟩ (.string d.name)).setCell ⟨g,k*7+1,none⟩ (.int .i64 d.op)).setCell ⟨g,k*7+2,none⟩ (.string d.a)).setCell ⟨g,k*7+3,none⟩ (.string d.b)).setCell ⟨g,k*7+4,none⟩ (.int .i64 d.value.rows)).setCell ⟨g,k*7+5,none⟩ (.int .i64 d.value.cols)).setCell ⟨g,k*7+6,none⟩ (.slice am d.value.cells.length cm)):=
  (((((((Keep.refl _ w2).setCell (fun _ e=>e rfl) _).setCell (fun _ e=>e rfl) _).setCell (fun _ e=>e rfl) _).setCell (fun _ e=>e rfl) _).setCell (fun _ e=>e rfl) _).setCell (fun _ e=>e rfl) _).setCell (fun _ e=>e rfl) _
 refine ⟨⟨⟨ss.set k (.slice am d.value.cells.length cm),hO.dset hss hk, ?_⟩,by simp[hl],fun x hx=> ?_,fun q hq=>by simp at hq;subst hq;exact hlo⟩,hK⟩
 ·rw[Znp];have h1:=hI.repl (j:=k) om hr (fun q hq=>⟨⟨(hfresh q hq).1,om.lt hq⟩,by simpa using (hfresh q hq).2.1⟩) (fun q hq v hv hvq=>(hfresh q hq).2.2 v hv hvq);exact h1.keep hK fun b _ _ hne e=>hne (by rw[e])
 ·rcases List.mem_or_eq_of_mem_set hx with hx|rfl
  ·exact hok x hx
  ·exact hd
theorem SepD.nilAt (hg:g=w.heap.size) (hc:cs= #[]) (hF:F g):SepD (w.alloc (.cells cs 30)) F (some ⟨g,0,none⟩) 0 0 []:=by
 subst hc;exact ⟨⟨[],Own.freshAt hg (by unfold maxLen;omega) rfl,Inner.nilw⟩,rfl,(fun _ h=>by cases h),fun q hq=>by simp at hq;subst hq;exact hF⟩
theorem ZmA (a:Option Addr) (n cap:Nat) (l:List Dfn) (w:World) (h:RdD w S a n cap l) (hb:ZbQ l<=1048576):
  Calls Tryz.prog 61 #[.slice a n cap] w fun e w'=> ∃ a' c',e= .returned (.slice a' n c')/\SepD w' (New w w') a' n c' l/\Grow w w':=by
 have Hl:=Lib.hid h.len;unfold ZbQ at hb;have hn:n<=1048576:=by rw[←Hl.out];omega
 go_enter Tryz.func61,Tryz.ntmps61;go_wp2;go_loopw [3,9] (fun v i wr=>Grow w wr/\ ∃ (k c1:Nat) (a1:Option Addr),k<=n/\i= .int .i64 k/\v= .slice a1 k c1/\SepD wr (New w wr) a1 k c1 (l.take k)) (fun _ i _=>n-(intOf i).toNat);case atStart=>
  refine ⟨(Grow.refl w).alloc _ _,0,0,_,Nat.zero_le _,rfl,rfl,⟨⟨[], ?_,Inner.nilw⟩,rfl,(fun _ h=>by cases h),fun g hg=> ?_⟩⟩
  ·exact Own.fresh (by unfold maxLen;omega) rfl
  ·simp at hg;subst hg;exact ⟨Nat.le_refl _,by simp⟩
 case round=>
  obtain ⟨hG,k,c1,a1,hk,rfl,rfl,hS⟩:=hrel;by_cases hlt:k<n
  ·obtain ⟨b,off,d,av,cv,rfl,hx,_,hbw,⟨e0,e1,e2,e3,e4,e5,e6⟩,r1,ho⟩:=(h.grow hG).at hlt;have htot:=(ZfL hx).2;have hcd:d.value.cells.length<=1048576:=(by unfold bdD at htot;omega);have Hx:=Lib.hid hx;clear hx htot;obtain ⟨wb,hwb,hGb,hBb,hsb⟩:=al1 wr #[.string d.name, .int .i64 d.op, .string d.a, .string d.b, .int .i64 d.value.rows, .int .i64 d.value.cols, .slice av d.value.cells.length cv] 30;have Hwb:=Lib.hid hwb;clear hwb;obtain ⟨⟨z0,z1,z2,z3,z4,z5,z6⟩, -⟩:=hBb.seven;have hvm:VM wb S (.agg #[.int .i64 d.value.rows, .int .i64 d.value.cols, .slice av d.value.cells.length cv]) d.value:=⟨av,_,cv,rfl,r1.grow hGb,ho.2.2.2.2.1,ho.2.2.2.2.2⟩;go_wp2_with fail;rw[←Hwb.out];refine (Zbs hvm hcd).mono ?_;rintro e w1 ⟨v',rfl,⟨am,nm,cm,rfl,om,xm,fm,hmr,hmc⟩,hG1⟩;have hnm:d.value.cells.length=nm:=(by simpa using om.len);subst hnm;have hB1:=hBb.grow hG1;obtain ⟨⟨y0,y1,y2,y3,y4,y5,y6⟩, -⟩:=hB1.seven;have f4:=hB1.free 4;have f5:=hB1.free 5;have f6:=hB1.free 6;have hK:Keep (fun q=>q≠wr.heap.size) w1 (((w1.setCell ⟨wr.heap.size,4,none⟩ (.int .i64 d.value.rows)).setCell ⟨wr.heap.size,5,none⟩ (.int .i64 d.value.cols)).setCell ⟨wr.heap.size,6,none⟩ (.slice am d.value.cells.length cm)):=
    (((Keep.refl _ w1).setCell (fun _ e=>e rfl) _).setCell (fun _ e=>e rfl) _).setCell (fun _ e=>e rfl) _
   have hGk:Grow wr (((w1.setCell ⟨wr.heap.size,4,none⟩ (.int .i64 d.value.rows)).setCell ⟨wr.heap.size,5,none⟩ (.int .i64 d.value.cols)).setCell ⟨wr.heap.size,6,none⟩ (.slice am d.value.cells.length cm)):=(hGb.trans hG1).keep hK fun q hq=>(by omega);have omk:=om.keep hK (fun g hg _ e=>by have:=(fm g hg).1;omega);have hfr: ∀ q,blk am=some q->wr.heap.size<=q:=fun q hq=>(by have:=(fm q hq).1;omega);have hsw:=hG.size;clear hG1 hGb hK om fm hB1;obtain ⟨⟨ss,hO,hI⟩,hlS,hokS,hloS⟩:=hS;have hOk:=hO.grow hGk;go_wp2_with (at_builtin;refine ZS rfl (.tmp 17) (.tmp 19) _ rfl T_defs rfl (hOk.grow ((Grow.refl _).alloc _ _)) rfl (Row.builtAt (S:=fun _=>True) 1 (by simp) (by unfold maxLen;omega) rfl fun _=>trivial) (by simp[Value.oneCell']) (by omega) (by unfold maxLen;omega) ?_;intro a3 c3 w3 hA3);have hGz:=hGk.alloc #[.string d.name, .int .i64 d.op, .string d.a, .string d.b, .int .i64 d.value.rows, .int .i64 d.value.cols, .slice am d.value.cells.length cm] 30;have hS3:=SepD.app ((hI.grow hGz).weak fun b hb hF hne=>⟨⟨hF.1,hb⟩,hne⟩) hlS hokS (fun g hg=>⟨(hloS g hg).1,Nat.lt_of_lt_of_le (hloS g hg).2 hGz.size⟩) (omk.grow ((Grow.refl _).alloc _ _)) r1.rng ho (Fresh.mk' hI (fun g hg=>(hloS g hg).2) hsw hfr) (by have:=hGz.size;omega) hA3;have hG3:Grow w w3:=hA3.grow (hG.trans (hGk.alloc _ _)) (fun g hg=>(hloS g hg).1);rw[←Z8 Hx.out] at hS3;clear hA3;go_wp2;go_roundw;case rel=>exact ⟨hG3,k+1,c3,a3,by omega,by go_num,rfl,hS3⟩
   case measure=>simp[intOf];omega
  ·go_wp2;go_ret;have:k=n:=(by omega);subst this;rw[ZaN Hl.out] at hS;exact ⟨_,_,rfl,hS,hG⟩

end Go.Proofs.YtgeoehnbpkediaaGreat
