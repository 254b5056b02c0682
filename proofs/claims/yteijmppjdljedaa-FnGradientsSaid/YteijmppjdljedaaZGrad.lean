/-
  GradientOf: plain part.
-/
import Derived.Test.YteijmppjdljedaaZIsGrad
namespace Go.Proofs.Yteijmppjdljedaa
open Go.RowKit

/-- May the arrow from s to t be added? -/
def gFits (ar : List Arw) (s t : List Int) : Bool := isFaceB s t && (!inArB ar t && acycB (ar ++ [(s, t)]))
def gRow (ar : List Arw) (s : List Int) : List (List Int) → List Arw
  | [] => ar
  | t :: r => if gFits ar s t then ar ++ [(s, t)] else gRow ar s r
def gStep (l : List (List Int)) (ar : List Arw) (i : Nat) : List Arw := match l[i]? with
  | some s => if inArB ar s then ar else gRow ar s (l.drop (i + 1))
  | none => ar
def gAt (l : List (List Int)) : Nat → List Arw
  | 0 => []
  | i + 1 => gStep l (gAt l i) i
noncomputable def gradOut (l : List (List Int)) : List Arw := if isCplxB l = true then gAt l l.length else []

theorem inArB_iff {ar : List Arw} {s : List Int} : inArB ar s = true ↔ s ∈ flat ar := by
  induction ar with
  | nil => simp [inArB]
  | cons p r ih =>
    have e : inArB (p :: r) s = (sameI p.1 s || sameI p.2 s || inArB r s) := by unfold inArB; rw [List.any_cons]
    rw [e, Bool.or_eq_true, Bool.or_eq_true, ih]
    simp [sameI, eq_comm, or_assoc]
theorem inArB_app (ar : List Arw) (s t x : List Int) : inArB (ar ++ [(s, t)]) x = (inArB ar x || (sameI s x || sameI t x)) := by
  unfold inArB; rw [List.any_append]; simp
theorem gRow_or (ar : List Arw) (s : List Int) : ∀ r, gRow ar s r = ar ∨ ∃ t ∈ r, gFits ar s t = true ∧ gRow ar s r = ar ++ [(s, t)]
  | [] => .inl rfl
  | t :: r => by
    simp only [gRow]
    split
    · rename_i h; exact .inr ⟨t, by simp, h, rfl⟩
    · rcases gRow_or ar s r with h | ⟨t', ht, h1, h2⟩
      · exact .inl h
      · exact .inr ⟨t', by simp [ht], h1, h2⟩
theorem gRow_drop {ar : List Arw} {s t : List Int} {l : List (List Int)} {j : Nat} (h : l[j]? = some t) : gRow ar s (l.drop j) = if gFits ar s t then ar ++ [(s, t)] else gRow ar s (l.drop (j + 1)) := by
  obtain ⟨hj, rfl⟩ := List.getElem?_eq_some_iff.1 h
  rw [List.drop_eq_getElem_cons hj]; rfl

/-- What holds of the arrows that have been collected. -/
def GOk (l : List (List Int)) (ar : List Arw) : Prop := (flat ar).Nodup ∧ ∀ x ∈ flat ar, x ∈ l
theorem isFaceB_len {s t : List Int} (h : isFaceB s t = true) : t.length = s.length + 1 := by
  unfold isFaceB at h
  rw [List.any_eq_true] at h
  obtain ⟨k, hk, he⟩ := h
  have hk' : k < t.length := by simpa using hk
  unfold sameI at he
  rw [decide_eq_true_eq] at he
  rw [he, del_len hk']; omega
theorem GOk.add {l : List (List Int)} {ar : List Arw} {s t : List Int} (h : GOk l ar) (hs : inArB ar s = false) (ht : inArB ar t = false) (hf : isFaceB s t = true) (hsl : s ∈ l) (htl : t ∈ l) : GOk l (ar ++ [(s, t)]) := by
  have h1 : s ∉ flat ar := fun e => by rw [inArB_iff.2 e] at hs; cases hs
  have h2 : t ∉ flat ar := fun e => by rw [inArB_iff.2 e] at ht; cases ht
  have hne : s ≠ t := fun e => by have := isFaceB_len hf; rw [e] at this; omega
  refine ⟨?_, fun x hx => ?_⟩
  · rw [flat_append]
    refine List.nodup_append.2 ⟨h.1, by simp [hne], fun a ha b hb e => ?_⟩
    subst e
    simp at hb
    rcases hb with rfl | rfl
    · exact h1 ha
    · exact h2 ha
  · rw [flat_append, List.mem_append] at hx
    simp at hx
    rcases hx with hx | rfl | rfl
    · exact h.2 x hx
    · exact hsl
    · exact htl
theorem GOk.step {l : List (List Int)} {ar : List Arw} (h : GOk l ar) (i : Nat) : GOk l (gStep l ar i) := by
  unfold gStep
  split
  · rename_i s hs
    split
    · exact h
    · rename_i hin
      rcases gRow_or ar s (l.drop (i + 1)) with e | ⟨t, ht, hf, e⟩
      · rw [e]; exact h
      · rw [e]
        unfold gFits at hf
        simp only [Bool.and_eq_true, Bool.not_eq_true'] at hf
        exact h.add (by simpa using hin) hf.2.1 hf.1 (List.mem_of_getElem? hs) (List.mem_of_mem_drop ht)
  · exact h
theorem gAt_ok (l : List (List Int)) : ∀ i, GOk l (gAt l i)
  | 0 => ⟨by simp [gAt], fun x hx => by simp [gAt] at hx⟩
  | i + 1 => (gAt_ok l i).step i
theorem total_erase {l : List (List Int)} {x : List Int} (h : x ∈ l) : total l = x.length + total (l.erase x) := by
  induction l with
  | nil => cases h
  | cons y r ih =>
    by_cases e : y = x
    · subst e; simp
    · rw [List.erase_cons_tail (by simpa using e)]
      have := ih ((List.mem_cons.1 h).resolve_left fun e' => e e'.symm)
      simp; omega
theorem total_sub : ∀ {q l : List (List Int)}, q.Nodup → (∀ x ∈ q, x ∈ l) → total q ≤ total l ∧ q.length ≤ l.length
  | [], _, _, _ => by simp
  | x :: q, l, hn, hs => by
    rw [List.nodup_cons] at hn
    have hx := hs x (by simp)
    have := total_sub (q := q) (l := l.erase x) hn.2 (fun y hy => (List.mem_erase_of_ne (fun e => hn.1 (by rw [← e]; exact hy))).2 (hs y (by simp [hy])))
    rw [List.length_erase_of_mem hx] at this
    have h1 := total_erase hx
    have h0 : 0 < l.length := List.length_pos_of_mem hx
    simp; omega
theorem GOk.bd {l : List (List Int)} {ar : List Arw} (h : GOk l ar) : total (flat ar) ≤ total l ∧ ar.length * 2 ≤ l.length := by
  have := total_sub h.1 h.2
  rw [flat_len] at this; omega
theorem cplx_nodup {l : List (List Int)} (h : isCplxB l = true) : l.Nodup := by
  have := (isCplxB_iff.1 h).1.2
  refine this.imp fun hab e => ?_
  subst e
  unfold beforeB at hab
  rw [if_pos rfl, lessL_self] at hab
  cases hab
theorem cplx_pos {l : List (List Int)} (h : isCplxB l = true) {s : List Int} (hs : s ∈ l) : 1 ≤ s.length := by
  have := (isCplxB_iff.1 h).1.1 s hs
  unfold isSimpB at this
  rw [decide_eq_true_eq] at this
  exact this.2.1
theorem nodup_same {l : List (List Int)} (h : l.Nodup) {i k : Nat} {s x : List Int} (hs : l[i]? = some s) (hx : l[k]? = some x) : sameI s x = decide (i = k) := by
  obtain ⟨hi, rfl⟩ := List.getElem?_eq_some_iff.1 hs
  obtain ⟨hk, rfl⟩ := List.getElem?_eq_some_iff.1 hx
  unfold sameI
  rw [decide_eq_decide]
  exact ⟨fun e => (List.getElem_inj h).1 e, fun e => by subst e; rfl⟩
end Go.Proofs.Yteijmppjdljedaa
