/-
  The program's eliminate: the number of pivots.
-/
import Derived.Test.YteijmppjdljedaaZRes
import Derived.Test.YteijmppjdljedaaZHermS
import Derived.Test.YteijmppjdljedaaZHermY
namespace Go.Proofs.Yteijmppjdljedaa
open Go.RowKit

theorem cell_part {f : Nat → Int} {m : List Int} {C R i i' j k : Nat} (hl : m.length = R * C) (hi : i < R) (hk : k ≤ C) (hj : j < C) (h : i' ≠ i ∨ k ≤ j) : cell (updR f (i * C) k m) C i' j = cell m C i' j := by
  unfold cell
  have h1 : i * C + k ≤ m.length := by
    have : (i + 1) * C ≤ R * C := Nat.mul_le_mul_right _ hi
    rw [Nat.add_mul] at this; omega
  rw [updR_getD h1, if_neg]
  rintro ⟨h2, h3⟩
  obtain ⟨e1, e2⟩ := place_eq (i := i') (i' := i) (j := j) (j' := i' * C + j - i * C) hj (by omega) (by omega)
  rcases h with h | h
  · exact h e1
  · subst e1; omega
theorem res_mul {p a b : Int} (hp : p ≤ 10000) (ha : 0 ≤ a ∧ a ≤ 10000) (hb : 0 ≤ b ∧ b < p) : 0 ≤ a * b ∧ a * b ≤ 100000000 := by
  have h1 := Int.mul_nonneg ha.1 hb.1
  have h2 := Int.mul_le_mul ha.2 (show b ≤ 10000 by omega) hb.1 (by omega)
  omega
theorem invX_rng {a p : Int} (hp : 2 ≤ p) : 0 ≤ invX a p ∧ invX a p < p := mod_rng hp
end Go.Proofs.Yteijmppjdljedaa
