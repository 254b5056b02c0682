/- Contracts of the library as they stand in this program: the numbers of its functions and types; written by the kit's tools lay-shelf and lay-plain. -/
import Derived.Shelf.Strings.Prefix
import Derived.Ground.NamesProg
import Derived.Test.YtjpcgofidijigaaGreatDoorZBase
namespace Go.Proofs.YtjpcgofidijigaaGreatDoor
open Go.Shelf
def Zjr:Go.Shelf.Ren:=⟨fun |101=>15|208=>36|206=>67|n=>n,fun |9=>9|4=>4|3=>3|n=>n,fun |n=>n⟩
theorem Znt:Go.Proofs.Lays.n101 Tryz.prog Zjr:={
 mixed:=by kernel_rfl
 f101:=Tryz.func15.trans (congrArg some (by kernel_rfl))
 f206:=Tryz.func67.trans (congrArg some (by kernel_rfl))
 f208:=Tryz.func36.trans (congrArg some (by kernel_rfl))
 t3:=Tryz.underlying3
 a3:=Tryz.isAgg3
 z3:=Tryz.sizeOf3
 v3:=Tryz.zeroValue3
 t4:=Tryz.underlying4
 a4:=Tryz.isAgg4
 z4:=Tryz.sizeOf4
 v4:=Tryz.zeroValue4
 t9:=Tryz.underlying9
 a9:=Tryz.isAgg9
 z9:=Tryz.sizeOf9
 v9:=Tryz.zeroValue9}
open Go.RowKit Go.Lib in
theorem ZfH (s p:ByteArray) (w:World):
  Calls Tryz.prog 15 #[.string s, .string p] w fun e w'=>e= .returned (.string ⟨(Lib.trimPrefix s.data.toList p.data.toList).toArray⟩)/\w'=w:=Any.strings_TrimPrefix Znt s p w
end Go.Proofs.YtjpcgofidijigaaGreatDoor
