/- Contracts of the library as they stand in this program: the numbers of its functions and types; written by the kit's tools lay-shelf and lay-plain. -/
import Derived.Shelf.Strings.Shaped
import Derived.Ground.NamesProg
import Derived.Test.YtjpcgofidijigaaGreatDoorZBase
namespace Go.Proofs.YtjpcgofidijigaaGreatDoor
open Go.Shelf
def Zjh:Go.Shelf.Ren:=⟨fun |145=>32|220=>61|219=>95|217=>131|225=>132|224=>133|267=>134|266=>165|314=>166|n=>n,fun |9=>9|4=>4|59=>65|3=>3|5=>5|46=>127|146=>188|51=>187|n=>n,fun |1=>0|n=>n⟩
theorem sh_laysM145:Go.Proofs.LaysM.n145 Tryz.prog Zjh:={
 mixed:=by kernel_rfl
 f145:=Tryz.func32.trans (congrArg some (by kernel_rfl))
 f217:=Tryz.func131.trans (congrArg some (by kernel_rfl))
 f219:=Tryz.func95.trans (congrArg some (by kernel_rfl))
 f220:=Tryz.func61.trans (congrArg some (by kernel_rfl))
 f224:=Tryz.func133.trans (congrArg some (by kernel_rfl))
 f225:=Tryz.func132.trans (congrArg some (by kernel_rfl))
 f266:=Tryz.func165.trans (congrArg some (by kernel_rfl))
 f267:=Tryz.func134.trans (congrArg some (by kernel_rfl))
 f314:=Tryz.func166.trans (congrArg some (by kernel_rfl))
 t3:=Tryz.underlying3
 a3:=Tryz.isAgg3
 z3:=Tryz.sizeOf3
 v3:=Tryz.zeroValue3
 t4:=Tryz.underlying4
 a4:=Tryz.isAgg4
 z4:=Tryz.sizeOf4
 v4:=Tryz.zeroValue4
 t5:=Tryz.underlying5
 a5:=Tryz.isAgg5
 z5:=Tryz.sizeOf5
 v5:=Tryz.zeroValue5
 t9:=Tryz.underlying9
 a9:=Tryz.isAgg9
 z9:=Tryz.sizeOf9
 v9:=Tryz.zeroValue9
 t46:=Tryz.underlying127
 a46:=Tryz.isAgg127
 z46:=Tryz.sizeOf127
 v46:=Tryz.zeroValue127
 t51:=Tryz.underlying187
 a51:=Tryz.isAgg187
 z51:=Tryz.sizeOf187
 v51:=Tryz.zeroValue187
 t59:=Tryz.underlying65
 a59:=Tryz.isAgg65
 z59:=Tryz.sizeOf65
 v59:=Tryz.zeroValue65
 t146:=Tryz.underlying188
 a146:=Tryz.isAgg188
 z146:=Tryz.sizeOf188
 v146:=Tryz.zeroValue188
 g1:=by kernel_rfl
 i3:=by kernel_rfl
 i4:=by kernel_rfl
 i5:=by kernel_rfl
 i9:=by kernel_rfl
 i46:=by kernel_rfl
 i51:=by kernel_rfl
 i59:=by kernel_rfl
 i146:=by kernel_rfl
 m1:=by kernel_rfl
 s1_3:=fun w h=>Go.Proofs.cell_of_shapedOpen_int (zero:= #[.int .i64 0]) (t:=3) h (of_decide_eq_true (by kernel_rfl)) (by kernel_rfl) rfl (by kernel_rfl) (by kernel_rfl) Tryz.underlying3}
end Go.Proofs.YtjpcgofidijigaaGreatDoor
