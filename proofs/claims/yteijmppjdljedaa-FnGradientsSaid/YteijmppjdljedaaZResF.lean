/-
  The reference's elimination: the number of pivots.
-/
import Derived.Test.YteijmppjdljedaaZResE
import Derived.Test.YteijmppjdljedaaZHermF
namespace Go.Proofs.Yteijmppjdljedaa
open Go.RowKit

theorem ret_cell_tmp2 {P : Program} {fn : Func} {R : Ending → World → Prop} {a : Act} {w : World} {ty : TypeId} {cs : Array Value} {p u v : Tmp} {g : Nat} {t : TypeId} (hT : StT P ty cs.size) (h : fn.results = #[.cell p ty, .tmp u, .tmp v]) (hd : a.defers = []) (hp : a.tmps.getD p undef = .pointer (some ⟨g, 0, none⟩))
    (hb : Blk w g cs t) (hR : R (.returned (.tuple #[.agg cs, a.tmps.getD u undef, a.tmps.getD v undef])) w) : bodyPost P fn R .ret a w := by
  have hp' : a.tmps[p]?.getD undef = .pointer (some ⟨g, 0, none⟩) := by simpa using hp
  refine bodyPost_ret (v := .tuple #[.agg cs, a.tmps.getD u undef, a.tmps.getD v undef]) ?_ hd hR
  simp [results, h, hp', asAddr, hT.load hb]
theorem elM1_piv {x : List Int} {C R t k j : Nat} (hl : x.length = R * C) (hk : k < R) (ht : t < R) (hj : j < C) : cell (elM1 x C t k) C t j = cell x C k j := by
  unfold elM1
  split
  · next h => rw [h]
  · next h => rw [cell_swR hl hk ht h hj, if_neg (fun e => h e.symm), if_pos rfl]
end Go.Proofs.Yteijmppjdljedaa
