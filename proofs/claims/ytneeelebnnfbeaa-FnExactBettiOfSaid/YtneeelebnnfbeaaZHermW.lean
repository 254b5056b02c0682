/-
  The reference's Hermite form: the walk.
-/
import Derived.Test.YtneeelebnnfbeaaZHermF
set_option maxHeartbeats 8000000
set_option maxRecDepth 100000
namespace Go.Proofs.Ytneeelebnnfbeaa
open Go.RowKit
def Mid (C R : Nat) (rest : HS → Option HS) (res : Option HS) (d : Int) (p j : Nat) (s : HS) : Prop := (Hs C R s ∧ rest s = res ∧ cell s.1 C p j = d) ∨ (res = none ∧ Mk s)
theorem Mid.add {C R : Nat} {rest rest' : HS → Option HS} {res : Option HS} {d q : Int} {p j i : Nat} {s : HS} (hm : Hm C R s) (h : Mid C R rest res d p j s) (hi : i < R) (hj : j < C) (hip : p ≠ i) (hd : d ≠ 0) (_hdn : -400000000 ≤ d ∧ d ≤ 400000000) (hq : -400000000 ≤ q ∧ q ≤ 400000000)
  (he : isNumB (cell s.1 C i j) = true → isNumB (cell s.1 C p j) = true → cell s.1 C p j ≠ 0 → q = cell s.1 C i j / cell s.1 C p j)
  (hr : Hs C R s → rest s = (add2 C R i p (-(cell s.1 C i j / cell s.1 C p j)) s).bind rest') : Mid C R rest' res d p j (add2S C R i p (-q) s) := by
 rcases h with ⟨hs, h1, h2⟩ | ⟨h1, h2⟩
 ·have hq2 := he (isNumB_iff.2 (cell_num hs.na C i j)) (isNumB_iff.2 (cell_num hs.na C p j)) (by rw [h2]; exact hd)
  have h3 := hr hs
  rw [← hq2] at h3
  rcases add2S_cases hs hi (t := -q) (p := p) (by omega) with h4 | ⟨h4, h5⟩
  ·rw [h4] at h3
   obtain ⟨g1, g2⟩ := add2_hs hs h4
   refine .inl ⟨g1, by rw [← h1, h3]; rfl, ?_⟩
   rw [g2]
   show cell (addR s.1 C i p (-q)) C p j = d
   rw [cell_addR hs.la hi hj, if_neg hip]; exact h2
  ·rw [h4] at h3
   exact .inr ⟨by rw [← h1, h3]; rfl, h5⟩
 ·exact .inr ⟨h1, add2S_mk hm hi h2⟩
theorem num_rng {l : List Int} (h : NumL l) : ∀ x ∈ l, I64 x := fun x hx => by have := h x hx; unfold I64; omega
theorem Mid.skip {C R : Nat} {rest rest' : HS → Option HS} {res : Option HS} {d : Int} {p j : Nat} {s : HS} (h : Mid C R rest res d p j s) (hr : rest s = rest' s) : Mid C R rest' res d p j s := by
 rcases h with ⟨hs, h1, h2⟩ | h
 ·exact .inl ⟨hs, by rw [← hr]; exact h1, h2⟩
 ·exact .inr h
end Go.Proofs.Ytneeelebnnfbeaa
