/-
  Counting what lies on arrows and what does not: plain.
-/
import Derived.Test.YtjepiemflpjjhaaZOrder
set_option maxHeartbeats 8000000
set_option maxRecDepth 100000
namespace Go.Proofs.Ytjepiemflpjjhaa
open Go.RowKit
theorem perm_mem {α : Type} [DecidableEq α] : ∀ {A B : List α}, A.Nodup → B.Nodup → (∀ x, x ∈ A ↔ x ∈ B) → A.Perm B
 | [], B, _, _, h => by
  have : B = [] := List.eq_nil_iff_forall_not_mem.2 fun x hx => by have := (h x).2 hx; simp at this
  rw [this]
 | a :: A, B, hA, hB, h => by
  have ha : a ∈ B := (h a).1 (by simp)
  have hn := List.nodup_cons.1 hA
  have ih := perm_mem (A := A) (B := B.erase a) hn.2 (hB.erase a) fun x => by
   rw [hB.mem_erase_iff]
   constructor
   ·intro hx; exact ⟨fun e => hn.1 (e ▸ hx), (h x).1 (by simp [hx])⟩
   ·rintro ⟨h1, h2⟩
    rcases List.mem_cons.1 ((h x).2 h2) with e | e
    ·exact (h1 e).elim
    ·exact e
  exact (ih.cons a).trans (List.perm_cons_erase ha).symm
theorem split_perm {l F : List (List Int)} (hl : l.Nodup) (hF : F.Nodup) (hs : ∀ x ∈ F, x ∈ l) : l.Perm ((l.filter fun s => !decide (s ∈ F)) ++ F) := by
 refine perm_mem hl ?_ fun x => ?_
 ·rw [List.nodup_append]
  refine ⟨hl.filter _, hF, fun a ha b hb e => ?_⟩
  have := (List.mem_filter.1 ha).2
  simp at this
  exact this (e ▸ hb)
 ·rw [List.mem_append, List.mem_filter]
  by_cases hx : x ∈ F
  ·simp [hx, hs x hx]
  ·simp [hx]
theorem split_sum {l F : List (List Int)} (hl : l.Nodup) (hF : F.Nodup) (hs : ∀ x ∈ F, x ∈ l) (f : List Int → Int) :
  (l.map f).sum = ((l.filter fun s => !decide (s ∈ F)).map f).sum + (F.map f).sum := by
 have h := ((split_perm hl hF hs).map f)
 have key : ∀ {A B : List Int}, A.Perm B → A.sum = B.sum := fun {A B} h => by
  induction h with
  | nil => rfl
  | cons x _ ih => simp [ih]
  | swap x y r => simp; omega
  | trans _ _ h1 h2 => exact h1.trans h2
 rw [key h, List.map_append, List.sum_append]
end Go.Proofs.Ytjepiemflpjjhaa
