/- Contracts of the library as they stand in this program: the numbers of its functions and types; written by the kit's tools lay-shelf and lay-plain. -/
import Derived.Shelf.Strings.Shaped
import Derived.Ground.NamesProg
import Derived.Test.YtgjefeiddfjjnaaGreatDoorZBase
namespace Go.Proofs.YtgjefeiddfjjnaaGreatDoor
open Go.Shelf
open Go.Proofs.Tryz
def ZkR:Go.Shelf.Ren:=⟨fun |145=>52|220=>98|219=>153|217=>213|225=>214|224=>215|267=>216|266=>265|314=>266|n=>n,fun |9=>9|4=>4|59=>85|3=>3|5=>5|46=>147|146=>235|51=>234|n=>n,fun |1=>0|n=>n⟩
theorem sh_laysM145:Go.Proofs.LaysM.n145 prog ZkR:={
 mixed:=Ξ
 f145:=func52.trans (congrArg some Ξ)
 f217:=func213.trans (congrArg some Ξ)
 f219:=func153.trans (congrArg some Ξ)
 f220:=func98.trans (congrArg some Ξ)
 f224:=func215.trans (congrArg some Ξ)
 f225:=func214.trans (congrArg some Ξ)
 f266:=func265.trans (congrArg some Ξ)
 f267:=func216.trans (congrArg some Ξ)
 f314:=func266.trans (congrArg some Ξ)
 t3:=underlying3
 a3:=isAgg3
 z3:=sizeOf3
 v3:=zeroValue3
 t4:=underlying4
 a4:=isAgg4
 z4:=sizeOf4
 v4:=zeroValue4
 t5:=underlying5
 a5:=isAgg5
 z5:=sizeOf5
 v5:=zeroValue5
 t9:=underlying9
 a9:=isAgg9
 z9:=sizeOf9
 v9:=zeroValue9
 t46:=underlying147
 a46:=isAgg147
 z46:=sizeOf147
 v46:=zeroValue147
 t51:=underlying234
 a51:=isAgg234
 z51:=sizeOf234
 v51:=zeroValue234
 t59:=underlying85
 a59:=isAgg85
 z59:=sizeOf85
 v59:=zeroValue85
 t146:=underlying235
 a146:=isAgg235
 z146:=sizeOf235
 v146:=zeroValue235
 g1:=Ξ
 i3:=Ξ
 i4:=Ξ
 i5:=Ξ
 i9:=Ξ
 i46:=Ξ
 i51:=Ξ
 i59:=Ξ
 i146:=Ξ
 m1:=Ξ
 s1_3:=fun w h=>Go.Proofs.cell_of_shapedOpen_int (zero:= #[.int .i64 0]) (t:=3) h (of_decide_eq_true Ξ) Ξ rfl Ξ Ξ underlying3}
end Go.Proofs.YtgjefeiddfjjnaaGreatDoor
