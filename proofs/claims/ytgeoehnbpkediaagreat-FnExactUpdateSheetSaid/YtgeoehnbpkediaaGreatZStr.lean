/- Strings: equality of bytes; lists without repeats. -/
import Derived.Test.YtgeoehnbpkediaaGreatZIsMat
namespace Go.Proofs.YtgeoehnbpkediaaGreat
open Go.RowKit
variable {S:Nat->Prop} {a:Option Addr} {cap k n:Nat} {l:List ByteArray} {s:ByteArray} {w w':World}
theorem Zl2 (bs:ByteArray): ∀ (n i:Nat) (r:List UInt8),bs.size-i=n->ByteArray.toList.loop bs i r=r.reverse++bs.data.toList.drop i:=by
 intro n;induction n with
 |zero=>intro i r h;unfold ByteArray.toList.loop;rw[if_neg (by omega),List.drop_of_length_le (by simp only[Array.length_toList];show bs.size<=i;omega)];simp
 |succ n ih=>
  intro i r h;unfold ByteArray.toList.loop;have hi:i<bs.data.toList.length:=by simp only[Array.length_toList];show i<bs.size;omega
  rw[if_pos (by omega),ih (i+1) _ (by omega),List.drop_eq_getElem_cons hi];have:bs.get! i=bs.data.toList[i]:=by show bs.data[i]! =_;rw[getElem!_pos bs.data i (by simpa using hi)];simp
  simp[this]
theorem toList_data (s:ByteArray):s.toList=s.data.toList:=by
 unfold ByteArray.toList;rw[Zl2 s s.size 0 [] rfl];simp
theorem toList_inj {a b:ByteArray} (h:a.toList=b.toList):a=b:=by
 rw[toList_data,toList_data] at h;exact Go.WideShapes.bytes_inj h
theorem Zfj (s t:ByteArray):(s.toList==t.toList)=decide (s=t):=by
 rw[Bool.eq_iff_iff,beq_iff_eq,decide_eq_true_eq];exact ⟨toList_inj,fun h=>by rw[h]⟩
theorem Zlg:s.toList.isEmpty=decide (s.size=0):=by
 have e:s.data.toList.length=s.size:=by rw[Array.length_toList];rfl
 rw[toList_data,Bool.eq_iff_iff,List.isEmpty_iff,decide_eq_true_eq, ←e,List.length_eq_zero_iff]
theorem ZlA {α:Type} [DecidableEq α]: ∀ {l r:List α},l.Nodup->(∀ x∈l,x∈r)->l.length<=r.length
 |[],_,_,_=>Nat.zero_le _
 |x::l,r,hn,hs=>by rw[List.nodup_cons] at hn;have hx:=hs x (by simp);have:=ZlA (l:=l) (r:=r.erase x) hn.2 (fun y hy=>(List.mem_erase_of_ne (fun e=>hn.1 (by rw[←e];exact hy))).2 (hs y (by simp[hy])));rw[List.length_erase_of_mem hx] at this;have h0:0<r.length:=List.length_pos_of_mem hx;simp;omega
def strs (l:List ByteArray):List Value:=l.map .string
@[simp] theorem ZrX (l:List ByteArray):(strs l).length=l.length:=by simp[strs]
theorem ZhP (h:l[k]? =some s):(strs l)[k]? =some (.string s):=by simp[strs,h]
theorem ZfF (l r:List ByteArray):strs (l++r)=strs l++strs r:=by simp[strs]
structure RdS (w:World) (S:Nat->Prop) (a:Option Addr) (n cap:Nat) (l:List ByteArray):Prop where
 row:Row w S 1 a n cap (strs l)
 len:l.length=n
theorem RdS.keep {T:Nat->Prop} (h:RdS w S a n cap l) (hk:Keep T w w') (hST: ∀ b,b<w.heap.size->S b->T b):RdS w' S a n cap l:=⟨h.row.keep hk hST,h.len⟩
theorem RdS.grow (h:RdS w S a n cap l) (hk:Grow w w'):RdS w' S a n cap l:=h.keep hk fun _ _ _=>trivial
theorem RdS.at (h:RdS w S a n cap l) (hk:k<n):
  ∃ b off s,a=some ⟨b,off,none⟩/\l[k]? =some s/\S b/\b<w.heap.size/\w.cell? ⟨b,off+k,none⟩=some (.string s):=by
 have hlt:k<l.length:=by have:=h.len;omega
 have hk':l[k]? =some l[k]:=List.getElem?_eq_getElem hlt;obtain ⟨b,off,ha,hS,hc⟩:=h.row.addr (by intro e;have:=ZhP hk';rw[e] at this;simp at this);have h0:=hc _ _ (ZhP hk');exact ⟨b,off,l[k],ha,hk',hS,World.block_lt_of_cell? w _ h0,h0⟩
theorem Own.rdS {e:TypeId} (h:Own w e 1 a n cap (strs l)) (hS: ∀ g,blk a=some g->S g):RdS w S a n cap l:=⟨h.row hS,by simpa using h.len⟩
def OSS (w:World) (F:Nat->Prop) (v:Value) (l:List ByteArray):Prop:= ∃ a n c,v= .slice a n c/\Own w 9 1 a n c (strs l)/\ ∀ g,blk a=some g->F g
theorem Zi3:SlT Tryz.prog 36 9 (.string ⟨#[]⟩) 1 16:=SlT.mk' Tryz.underlying36 (by kernel_rfl) rfl

end Go.Proofs.YtgeoehnbpkediaaGreat
