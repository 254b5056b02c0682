/-
  The program's eliminate: the number of pivots.
-/
import Derived.Test.YtneeelebnnfbeaaZRes
import Derived.Test.YtneeelebnnfbeaaZHermS
import Derived.Test.YtneeelebnnfbeaaZHermY
set_option maxHeartbeats 8000000
set_option maxRecDepth 100000
namespace Go.Proofs.Ytneeelebnnfbeaa
open Go.RowKit
theorem cell_part {f : Nat → Int} {m : List Int} {C R i i' j k : Nat} (hl : m.length = R * C) (hi : i < R) (hk : k ≤ C) (hj : j < C) (h : i' ≠ i ∨ k ≤ j) : cell (updR f (i * C) k m) C i' j = cell m C i' j := by
 unfold cell
 have h1 : i * C + k ≤ m.length := by
  have : (i + 1) * C ≤ R * C := Nat.mul_le_mul_right _ hi
  rw [Nat.add_mul] at this; omega
 rw [updR_getD h1, if_neg]
 rintro ⟨h2, h3⟩
 obtain ⟨e1, e2⟩ := place_eq (i := i') (i' := i) (j := j) (j' := i' * C + j - i * C) hj (by omega) (by omega)
 rcases h with h | h
 ·exact h e1
 ·subst e1; omega
end Go.Proofs.Ytneeelebnnfbeaa
