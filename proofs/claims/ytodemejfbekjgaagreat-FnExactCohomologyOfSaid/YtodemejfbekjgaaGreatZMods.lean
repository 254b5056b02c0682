/-
  What ImageIn, KernelIn, HomologyOf and CohomologyOf answer: plain.
-/
import Derived.Test.YtodemejfbekjgaaGreatZQuo
import Derived.Test.YtodemejfbekjgaaGreatZStack
namespace Go.Proofs.YtodemejfbekjgaaGreat
open Go.RowKit

noncomputable def mqOk (i : Bool) (a b : Mat) : Bool := i && quOk a b
noncomputable def mqN (i : Bool) (a b : Mat) : Int := if i = true then quN a b else 0
noncomputable def mqB (i : Bool) (a b : Mat) : List Int := if i = true then quB a b else []
theorem mq_no {i : Bool} {a b : Mat} (h : i = false) : mqOk i a b = false ∧ mqN i a b = 0 ∧ mqB i a b = [] := by
  subst h; exact ⟨rfl, rfl, rfl⟩
theorem mq_yes {i : Bool} {a b : Mat} (h : i = true) : mqOk i a b = quOk a b ∧ mqN i a b = quN a b ∧ mqB i a b = quB a b := by
  subst h; exact ⟨rfl, rfl, rfl⟩
theorem mqB_bd (i : Bool) (a b : Mat) : bdI (mqB i a b) ≤ 1024 := by
  cases i with
  | false => simp [mqB, bdI]
  | true =>
    rw [(mq_yes rfl).2.2]
    cases h : quOk a b with
    | false => rw [(qu_no h).2.2]; simp [bdI]
    | true =>
      rw [(qu_yes h).2.2]
      unfold quOk at h
      rw [Bool.and_eq_true] at h
      have h1 : (gt1 (facB (cmB a b))).length ≤ (facB (cmB a b)).length := List.length_filter_le _ _
      have := (fac_ok h.2).2.2
      unfold bdI; omega
theorem imgB_bd (s f : Mat) : bdM (imB s f) ≤ 1024 := by
  unfold imB
  split
  · exact basB_bd _
  · simp [bdM]
theorem tzB_bd (s f : Mat) : bdM (tzB s f) ≤ 1024 := by
  unfold tzB
  split
  · exact basB_bd _
  · simp [bdM]
theorem OI.upM {w : World} {S T : Nat → Prop} {v : Value} {xs : List Int} (h : OI w S v xs) (hST : ∀ g, S g → T g) : OI w T v xs := by
  obtain ⟨a, n, c, h1, h2, h3, h4⟩ := h
  exact ⟨a, n, c, h1, h2, h3, fun g hg => hST g (h4 g hg)⟩
theorem OI.nilM {w : World} {F : Nat → Prop} {g : Nat} (hg : g = w.heap.size) (hF : F g) : OI (w.alloc (.cells #[] 3)) F (.slice (some ⟨g, 0, none⟩) 0 0) [] :=
  ⟨_, _, _, rfl, Own.freshAt (cs := #[]) hg (by unfold maxLen; omega) rfl, (fun x hx => by cases hx), fun q hq => by simp at hq; subst hq; exact hF⟩
end Go.Proofs.YtodemejfbekjgaaGreat
