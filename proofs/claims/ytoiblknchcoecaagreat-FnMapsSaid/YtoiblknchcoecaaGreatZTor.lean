/-
  TorsionOf: both walks.
-/
import Derived.Test.YtoiblknchcoecaaGreatZFacI
import Derived.Test.YtoiblknchcoecaaGreatZBoundary
import Derived.Test.YtoiblknchcoecaaGreatZBase
set_option maxHeartbeats 8000000
set_option maxRecDepth 100000
namespace Go.Proofs.YtoiblknchcoecaaGreat
open Go.RowKit
theorem OI.nil (w : World) : OI (w.alloc (.cells #[] 3)) (fun g => w.heap.size ≤ g ∧ g < (w.alloc (.cells #[] 3)).heap.size) (.slice (some ⟨w.heap.size, 0, none⟩) 0 0) [] :=
 have hO : Own (w.alloc (.cells #[] 3)) 3 1 (some ⟨w.heap.size, 0, none⟩) 0 0 [] := Own.freshAt (cs := #[]) (by simp) (by unfold maxLen; omega) rfl
 ⟨_, 0, 0, rfl, hO, (fun x hx => by cases hx), fun g hg => ⟨by simp at hg; omega, hO.lt hg⟩⟩
theorem OI.up {w : World} {S T : Nat → Prop} {v : Value} {xs : List Int} (h : OI w S v xs) (hST : ∀ g, S g → T g) : OI w T v xs := by
 obtain ⟨a, n, c, h1, h2, h3, h4⟩ := h
 exact ⟨a, n, c, h1, h2, h3, fun g hg => hST g (h4 g hg)⟩
theorem OI.nilN {w0 w : World} {b : Nat} (hb : b = w.heap.size) (h : w0.heap.size ≤ w.heap.size) : OI (w.alloc (.cells #[] 3)) (New w0 (w.alloc (.cells #[] 3))) (.slice (some ⟨b, 0, none⟩) 0 0) [] := by
 subst hb
 exact (OI.nil w).up fun g hg => ⟨Nat.le_trans h hg.1, hg.2⟩
end Go.Proofs.YtoiblknchcoecaaGreat
