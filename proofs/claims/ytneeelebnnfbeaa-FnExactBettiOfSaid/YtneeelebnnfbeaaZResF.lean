/-
  The reference's elimination: the number of pivots.
-/
import Derived.Test.YtneeelebnnfbeaaZResE
import Derived.Test.YtneeelebnnfbeaaZHermF
set_option maxHeartbeats 8000000
set_option maxRecDepth 100000
namespace Go.Proofs.Ytneeelebnnfbeaa
open Go.RowKit
theorem ret_cell_tmp2 {P : Program} {fn : Func} {R : Ending → World → Prop} {a : Act} {w : World} {ty : TypeId} {cs : Array Value} {p u v : Tmp} {g : Nat} {t : TypeId} (hT : StT P ty cs.size) (h : fn.results = #[.cell p ty, .tmp u, .tmp v]) (hd : a.defers = []) (hp : a.tmps.getD p undef = .pointer (some ⟨g, 0, none⟩))
  (hb : Blk w g cs t) (hR : R (.returned (.tuple #[.agg cs, a.tmps.getD u undef, a.tmps.getD v undef])) w) : bodyPost P fn R .ret a w := by
 have hp' : a.tmps[p]?.getD undef = .pointer (some ⟨g, 0, none⟩) := by simpa using hp
 refine bodyPost_ret (v := .tuple #[.agg cs, a.tmps.getD u undef, a.tmps.getD v undef]) ?_ hd hR
 simp [results, h, hp', asAddr, hT.load hb]
end Go.Proofs.Ytneeelebnnfbeaa
