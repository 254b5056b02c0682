/-
  Cells that are slices of integers, read; rows of structs.
-/
import Derived.Test.YthlncohllbmapaaKindII
namespace Go.Proofs.Ythlncohllbmapaa
open Go.RowKit

/-- The cells vs are slices that read as the lists xss. -/
def RdCells (w : World) (S : Nat → Prop) (vs : List Value) (xss : List (List Int)) : Prop :=
  ∀ (i : Nat) (xs : List Int), xss[i]? = some xs → ∃ b c, vs[i]? = some (Value.slice b xs.length c) ∧ RdI w S b xs.length c xs
theorem RdCells.keep {S T : Nat → Prop} {w w' : World} {vs : List Value} {xss : List (List Int)} (h : RdCells w S vs xss) (hk : Keep T w w') (hST : ∀ b, b < w.heap.size → S b → T b) : RdCells w' S vs xss := fun i xs hi => by
  obtain ⟨b, c, h3, h4⟩ := h i xs hi
  exact ⟨b, c, h3, h4.keep hk hST⟩
theorem RdCells.grow {S : Nat → Prop} {w w' : World} {vs : List Value} {xss : List (List Int)} (h : RdCells w S vs xss) (hk : Grow w w') : RdCells w' S vs xss := h.keep hk fun _ _ _ => trivial
theorem RdCells.weak {S T : Nat → Prop} {w : World} {vs : List Value} {xss : List (List Int)} (h : RdCells w S vs xss) (hST : ∀ b, b < w.heap.size → S b → T b) : RdCells w T vs xss := fun i xs hi => by
  obtain ⟨b, c, h3, h4⟩ := h i xs hi
  exact ⟨b, c, h3, h4.weak hST⟩
theorem RdCells.nilw {S : Nat → Prop} {w : World} : RdCells w S [] [] := fun i xs h => by simp at h
theorem RdCells.append {S : Nat → Prop} {w : World} {vs us : List Value} {xss yss : List (List Int)} (h : RdCells w S vs xss) (h' : RdCells w S us yss) (hl : vs.length = xss.length) : RdCells w S (vs ++ us) (xss ++ yss) := fun i xs hi => by
  by_cases hlt : i < xss.length
  · rw [List.getElem?_append_left hlt] at hi
    obtain ⟨b, c, h1, h2⟩ := h i xs hi
    exact ⟨b, c, by rw [List.getElem?_append_left (by omega)]; exact h1, h2⟩
  · rw [List.getElem?_append_right (by omega)] at hi
    obtain ⟨b, c, h1, h2⟩ := h' _ xs hi
    exact ⟨b, c, by rw [List.getElem?_append_right (by omega), hl]; exact h1, h2⟩
theorem RdCells.two {S : Nat → Prop} {w : World} {a1 a2 : Option Addr} {n1 n2 c1 c2 : Nat} {x y : List Int} (h1 : RdI w S a1 n1 c1 x) (h2 : RdI w S a2 n2 c2 y) : RdCells w S [.slice a1 n1 c1, .slice a2 n2 c2] [x, y] := fun i xs hi => by
  have e1 := h1.len; have e2 := h2.len
  subst e1; subst e2
  match i, hi with
  | 0, hi => simp at hi; subst hi; exact ⟨a1, c1, rfl, h1⟩
  | 1, hi => simp at hi; subst hi; exact ⟨a2, c2, rfl, h2⟩

theorem Row.pre {S : Nat → Prop} {w : World} {sz : Nat} {a : Option Addr} {n cap : Nat} {cs : List Value} (h : Row w S sz a n cap cs) {k : Nat} (hk : k ≤ n) : Row w S sz a k cap (cs.take (k * sz)) := by
  have h1 := h.len; have h2 := h.le
  have h3 : k * sz ≤ n * sz := Nat.mul_le_mul_right _ hk
  refine ⟨by rw [List.length_take]; omega, by omega, h.max, h.nil, fun hne => ?_⟩
  have hcs : cs ≠ [] := by intro e; subst e; simp at hne
  obtain ⟨b, off, rfl, hS, hc⟩ := h.addr hcs
  refine ⟨b, off, rfl, hS, fun j c hj => hc j c ?_⟩
  rw [List.getElem?_take] at hj
  split at hj
  · exact hj
  · cases hj
theorem Inner.rdCells {w : World} {F S : Nat → Prop} {g : Option Nat} {vs : List Value} {xss : List (List Int)} (h : Inner w F g vs xss) (hS : ∀ b, F b → g ≠ some b → S b) : RdCells w S vs xss := fun i xs hi => by
  obtain ⟨b, c, h1, h2, h3, h4⟩ := h.each i xs hi
  exact ⟨b, c, h1, h2.rdI (fun q hq => hS q (h4 q hq).1 (h4 q hq).2) h3⟩
/-- The place of the first one; -1 if there is none. -/
def firstIdx {α : Type} (f : α → Bool) : List α → Int
  | [] => -1
  | x :: r => if f x = true then 0 else (if firstIdx f r < 0 then -1 else firstIdx f r + 1)
theorem firstIdx_lo {α : Type} (f : α → Bool) (l : List α) : -1 ≤ firstIdx f l ∧ firstIdx f l < l.length := by
  induction l with
  | nil => simp [firstIdx]
  | cons x r ih => simp only [firstIdx, List.length_cons]; split <;> (try split) <;> omega
theorem firstIdx_at {α : Type} {f : α → Bool} : ∀ {l : List α} {k : Nat} {x : α}, (∀ y ∈ l.take k, f y = false) → l[k]? = some x → f x = true → firstIdx f l = k
  | [], k, x, _, h, _ => by simp at h
  | y :: r, 0, x, _, h, hf => by simp at h; subst h; simp [firstIdx, hf]
  | y :: r, k + 1, x, h, hk, hf => by
    have h1 := h y (by simp)
    simp at hk
    have ih := firstIdx_at (f := f) (l := r) (k := k) (fun z hz => h z (by simp [hz])) hk hf
    simp only [firstIdx, h1, ih]
    simp only [Bool.false_eq_true, if_false]
    rw [if_neg (by omega)]; simp
theorem firstIdx_no {α : Type} {f : α → Bool} : ∀ {l : List α}, (∀ y ∈ l, f y = false) → firstIdx f l = -1
  | [], _ => rfl
  | x :: r, h => by
    simp only [firstIdx, h x (by simp), firstIdx_no (l := r) (fun y hy => h y (by simp [hy]))]; simp
theorem firstIdx_mem {α : Type} (f : α → Bool) : ∀ l : List α, 0 ≤ firstIdx f l ↔ l.any f = true
  | [] => by simp [firstIdx]
  | x :: r => by
    have ih := firstIdx_mem f r
    have e : firstIdx f (x :: r) = if f x = true then 0 else (if firstIdx f r < 0 then -1 else firstIdx f r + 1) := rfl
    rw [e, List.any_cons, Bool.or_eq_true]
    by_cases hx : f x = true
    · rw [if_pos hx]; simp [hx]
    · rw [if_neg hx]
      constructor
      · intro h
        exact .inr (ih.1 (by split at h <;> omega))
      · intro h
        have := ih.2 (h.resolve_left hx)
        rw [if_neg (by omega)]; omega
theorem firstIdx_any {α : Type} (f : α → Bool) (l : List α) : decide (0 ≤ firstIdx f l) = l.any f := by
  rw [Bool.eq_iff_iff, decide_eq_true_eq]; exact firstIdx_mem f l
end Go.Proofs.Ythlncohllbmapaa
