/-
  KernelOf: the program's and the reference's.
-/
import Derived.Test.YtoiblknchcoecaaZBasI
import Derived.Test.YtoiblknchcoecaaZBase
set_option maxHeartbeats 8000000
set_option maxRecDepth 100000
namespace Go.Proofs.Ytoiblknchcoecaa
open Go.RowKit
def kernM (s : HS) (C R : Nat) : Mat := { rows := ((R - lastN s.1 C R : Nat) : Int), cols := (R : Int), cells := s.2.drop (lastN s.1 C R * R) }
def kerB (m : Mat) : Mat := match hermR m with
 | some s => basB (kernM s m.cols.toNat m.rows.toNat)
 | none => { rows := 0, cols := 0, cells := [] }
end Go.Proofs.Ytoiblknchcoecaa

namespace Go.Proofs.Ytoiblknchcoecaa
open Go.RowKit
def KerPost (z N : Nat) (L : List Int) (x y : Int) (BM : Mat) (bo : Bool) : Nat → Value → World → Prop
 | 6, u, w => ∃ g, u = .slice (some ⟨g, 0, none⟩) 0 0 ∧ Own w 3 1 (some ⟨g, 0, none⟩) 0 0 []
 | 14, u, w => ∃ g c, u = .slice (some ⟨g, 0, none⟩) N c ∧ Own w 3 1 (some ⟨g, 0, none⟩) N c (ints L)
 | 15, u, w => ∃ g c, u = .agg #[.int .i64 x, .int .i64 y, .slice (some ⟨g, 0, none⟩) N c] ∧ Own w 3 1 (some ⟨g, 0, none⟩) N c (ints L)
 | 16, u, w => ∃ r, u = .tuple #[r, .bool bo] ∧ OM w (fun g => z ≤ g) r BM
 | 17, u, w => ∃ r, u = .tuple #[r, .bool bo] ∧ OM w (fun g => z ≤ g) r BM
 | 18, u, w => OM w (fun g => z ≤ g) u BM
 | 19, u, _ => u = .bool bo
 | 20, u, w => ∃ g, u = .pointer (some ⟨g, 0, none⟩) ∧ z ≤ g ∧ Blk w g #[.int .i64 0, .int .i64 0, .slice none 0 0] 26
 | _, _, _ => True
theorem KerPost.stays {z N : Nat} {L : List Int} {x y : Int} {BM : Mat} {bo : Bool} : ∀ i u w w', Grow w w' → KerPost z N L x y BM bo i u w → KerPost z N L x y BM bo i u w' := fun i u w w' hG h => by
 unfold KerPost at *
 split at h
 ·obtain ⟨g, h1, h2⟩ := h; exact ⟨g, h1, h2.grow hG⟩
 ·obtain ⟨g, c, h1, h2⟩ := h; exact ⟨g, c, h1, h2.grow hG⟩
 ·obtain ⟨g, c, h1, h2⟩ := h; exact ⟨g, c, h1, h2.grow hG⟩
 ·obtain ⟨r, h1, h2⟩ := h; exact ⟨r, h1, h2.grow hG⟩
 ·obtain ⟨r, h1, h2⟩ := h; exact ⟨r, h1, h2.grow hG⟩
 ·exact h.grow hG
 ·exact h
 ·obtain ⟨g, h1, h2, h3⟩ := h; exact ⟨g, h1, h2, h3.grow hG⟩
 ·trivial
end Go.Proofs.Ytoiblknchcoecaa
