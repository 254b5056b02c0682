/-
  Closed facts of the program: its types, its knobs.
-/
import Derived.Test.YthlncohllbmapaaClose
import Derived.Test.YthlncohllbmapaaRows
namespace Go.Proofs.Ythlncohllbmapaa
open Go.RowKit
theorem P_own : ownKnob Try.prog.godebug = none := by kernel_rfl
theorem P_laid : laidOutB Try.prog = true := by kernel_rfl
theorem P_mixed : Try.prog.follows .mixedOrders = true := by kernel_rfl
theorem cells_int : Try.prog.cellsOf 3 = 1 := by kernel_rfl
theorem T_ints : SlT Try.prog 22 3 (.int .i64 0) 1 8 := SlT.mk' Try.underlying22 (by kernel_rfl) rfl
theorem cells_ints : Try.prog.cellsOf 22 = 1 := by kernel_rfl
theorem T_intss : SlT Try.prog 31 22 (.slice none 0 0) 1 24 := SlT.mk' Try.underlying31 (by kernel_rfl) rfl
theorem CT_int : CellT Try.prog 3 := CellT.int Try.underlying3
theorem CT_ints : CellT Try.prog 22 := CellT.slice Try.underlying22
theorem CT_bool : CellT Try.prog 4 := CellT.bool Try.underlying4
theorem CT_str : CellT Try.prog 9 := CellT.string Try.underlying9
theorem T_mat : StT Try.prog 27 3 := ⟨_, Try.underlying27, by kernel_rfl⟩
end Go.Proofs.Ythlncohllbmapaa
