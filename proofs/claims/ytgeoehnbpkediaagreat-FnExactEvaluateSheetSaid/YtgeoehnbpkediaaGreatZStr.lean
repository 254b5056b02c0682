/- Strings: equality of bytes; lists without repeats. -/
import Derived.Test.YtgeoehnbpkediaaGreatZIsMat
namespace Go.Proofs.YtgeoehnbpkediaaGreat
open Go.RowKit
theorem Zky (bs:ByteArray): ∀ (n i:Nat) (r:List UInt8),bs.size-i=n->ByteArray.toList.loop bs i r=r.reverse++bs.data.toList.drop i:=by
 intro n
 induction n with
 |zero=>
  intro i r h
  unfold ByteArray.toList.loop
  rw[if_neg (by omega),List.drop_of_length_le (by simp only[Array.length_toList];show bs.size<=i;omega)];simp
 |succ n ih=>
  intro i r h
  unfold ByteArray.toList.loop
  have hi:i<bs.data.toList.length:=by simp only[Array.length_toList];show i<bs.size;omega
  rw[if_pos (by omega),ih (i+1) _ (by omega),List.drop_eq_getElem_cons hi]
  have:bs.get! i=bs.data.toList[i]:=by
   show bs.data[i]! =_
   rw[getElem!_pos bs.data i (by simpa using hi)];simp
  simp[this]
theorem toList_data (s:ByteArray):s.toList=s.data.toList:=by
 unfold ByteArray.toList;rw[Zky s s.size 0 [] rfl];simp
def strs (l:List ByteArray):List Value:=l.map .string
@[simp] theorem ZpN (l:List ByteArray):(strs l).length=l.length:=by simp[strs]
theorem Zow {l:List ByteArray} {k:Nat} {s:ByteArray} (h:l[k]? =some s):(strs l)[k]? =some (.string s):=by simp[strs,h]
structure RdS (w:World) (S:Nat->Prop) (a:Option Addr) (n cap:Nat) (l:List ByteArray):Prop where
 row:Row w S 1 a n cap (strs l)
 len:l.length=n

end Go.Proofs.YtgeoehnbpkediaaGreat
