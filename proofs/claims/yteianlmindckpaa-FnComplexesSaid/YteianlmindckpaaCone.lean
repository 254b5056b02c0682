/-
  ConeOver: plain part.
-/
import Derived.Test.YteianlmindckpaaCplx
namespace Go.Proofs.Yteianlmindckpaa
open Go.RowKit

/-- The simplex with one vertex more, in order. -/
def insB (s : List Int) (v : Int) : List Int := (s ++ [v]).mergeSort fun x y => decide (x ≤ y)
theorem insB_perm (s : List Int) (v : Int) : (insB s v).Perm (v :: s) := (List.mergeSort_perm _ _).trans (List.perm_append_singleton v s)
theorem insB_len (s : List Int) (v : Int) : (insB s v).length = s.length + 1 := by have := (insB_perm s v).length_eq; simpa using this
theorem insB_sorted (s : List Int) (v : Int) : (insB s v).Pairwise (· ≤ ·) := by
  have := List.pairwise_mergeSort (le := fun x y : Int => decide (x ≤ y)) (fun a b c h1 h2 => by simp at *; omega) (fun a b => by simp; omega) (s ++ [v])
  exact this.imp fun h => by simpa using h
theorem insB_eq {s : List Int} {v : Int} {k : Nat} (hs : s.Pairwise (· < ·)) (hk : k ≤ s.length) (h1 : ∀ j x, k ≤ j → s[j]? = some x → v < x) (h2 : ∀ x, 0 < k → s[k - 1]? = some x → x ≤ v) : insB s v = s.take k ++ v :: s.drop k := by
  refine List.Perm.eq_of_pairwise (le := (· ≤ ·)) (fun a b _ _ h1 h2 => by omega) (insB_sorted s v) ?_ ((insB_perm s v).trans ?_)
  · have hle : s.Pairwise (· ≤ ·) := hs.imp fun h => by omega
    have hd : ∀ x ∈ s.drop k, v < x := fun x hx => by
      obtain ⟨j, hj, rfl⟩ := List.mem_iff_getElem.1 hx
      rw [List.getElem_drop]
      exact h1 (k + j) _ (by omega) (List.getElem?_eq_getElem (by simp at hj; omega))
    have ht : ∀ x ∈ s.take k, x ≤ v := fun x hx => by
      obtain ⟨j, hj, rfl⟩ := List.mem_iff_getElem.1 hx
      rw [List.getElem_take]
      simp only [List.length_take] at hj
      have hk1 := h2 s[k - 1] (by omega) (List.getElem?_eq_getElem (by omega))
      by_cases e : j = k - 1
      · subst e; exact hk1
      · have := List.pairwise_iff_getElem.1 hs j (k - 1) (by omega) (by omega) (by omega)
        omega
    rw [List.pairwise_append, List.pairwise_cons]
    refine ⟨hle.sublist (List.take_sublist _ _), ⟨fun x hx => by have := hd x hx; omega, hle.sublist (List.drop_sublist _ _)⟩, fun x hx y hy => ?_⟩
    have hx' := ht x hx
    rcases List.mem_cons.1 hy with rfl | hy
    · exact hx'
    · have := hd y hy; omega
  · have : (s.take k ++ v :: s.drop k).Perm (v :: (s.take k ++ s.drop k)) := List.perm_middle
    rw [List.take_append_drop] at this
    exact this.symm
theorem insB_rng {s : List Int} {v : Int} (hs : ∀ x ∈ s, I64 x) (hv : I64 v) : ∀ x ∈ insB s v, I64 x := fun x hx => by
  rcases List.mem_cons.1 ((insB_perm s v).mem_iff.1 hx) with rfl | h
  · exact hv
  · exact hs x h
/-- What the cone is made of. -/
def coneRow (v : Int) (s : List Int) : List (List Int) := [s, insB s v]
def coneAll (l : List (List Int)) (v : Int) : List (List Int) := [v] :: l.flatMap (coneRow v)
theorem coneAll_nil (v : Int) : coneAll [] v = [[v]] := rfl
theorem coneAll_succ {l : List (List Int)} {i : Nat} {s : List Int} (v : Int) (h : l[i]? = some s) : coneAll (l.take (i + 1)) v = coneAll (l.take i) v ++ coneRow v s := by
  unfold coneAll; rw [take_succ h, List.flatMap_append]; simp
theorem coneAll_len (l : List (List Int)) (v : Int) : (coneAll l v).length = 1 + 2 * l.length := by
  unfold coneAll
  have : ∀ r : List (List Int), (r.flatMap (coneRow v)).length = 2 * r.length := fun r => by
    induction r with
    | nil => rfl
    | cons x r ih => rw [List.flatMap_cons, List.length_append, ih]; simp [coneRow]; omega
  simp [this]; omega
theorem mem_coneAll {l : List (List Int)} {v : Int} {x : List Int} : x ∈ coneAll l v ↔ x = [v] ∨ x ∈ l ∨ ∃ s ∈ l, x = insB s v := by
  unfold coneAll
  rw [List.mem_cons, List.mem_flatMap]
  constructor
  · rintro (h | ⟨s, hs, h⟩)
    · exact .inl h
    · rcases List.mem_cons.1 h with rfl | h
      · exact .inr (.inl hs)
      · exact .inr (.inr ⟨s, hs, by simpa using h⟩)
  · rintro (h | h | ⟨s, hs, rfl⟩)
    · exact .inl h
    · exact .inr ⟨x, h, by simp [coneRow]⟩
    · exact .inr ⟨s, hs, by simp [coneRow]⟩
theorem coneAll_small {l : List (List Int)} {v : Int} (h : ∀ s ∈ l, s.length ≤ 4) : ∀ x ∈ coneAll l v, x.length ≤ 5 := fun x hx => by
  rcases mem_coneAll.1 hx with rfl | hx | ⟨s, hs, rfl⟩
  · simp
  · have := h x hx; omega
  · rw [insB_len]; have := h s hs; omega
open Classical in
/-- Whether a cone is tried; whether it is made; what it is. -/
noncomputable def coneIs (l : List (List Int)) (v : Int) : Bool := isCplxB l && (decide (0 ≤ v ∧ v ≤ 9) && decide ([v] ∉ l))
noncomputable def coneOk (l : List (List Int)) (v : Int) : Bool := coneIs l v && cplxOk (coneAll l v)
noncomputable def coneOut (l : List (List Int)) (v : Int) : List (List Int) := if coneIs l v = true then cplxOut (coneAll l v) else []
end Go.Proofs.Yteianlmindckpaa
