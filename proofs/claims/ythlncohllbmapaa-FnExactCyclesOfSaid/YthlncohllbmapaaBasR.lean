/-
  Rows of a matrix that are not zeros, and their basis: plain.
-/
import Derived.Test.YthlncohllbmapaaHermE
namespace Go.Proofs.Ythlncohllbmapaa

def nzB (m : List Int) (C i : Nat) : Bool := (List.range C).any fun k => cell m C i k != 0
theorem nzB_iff {m : List Int} {C i : Nat} : nzB m C i = true ↔ ∃ k, k < C ∧ cell m C i k ≠ 0 := by
  unfold nzB; rw [List.any_eq_true]
  constructor
  · rintro ⟨k, hk, h⟩; exact ⟨k, List.mem_range.1 hk, by simpa using h⟩
  · rintro ⟨k, hk, h⟩; exact ⟨k, List.mem_range.2 hk, by simpa using h⟩
/-- The last row that is not zeros, plus one. -/
def lastN (m : List Int) (C : Nat) : Nat → Nat
  | 0 => 0
  | i + 1 => if nzB m C i = true then i + 1 else lastN m C i
theorem ech_last {C R : Nat} {m : List Int} {t : Nat} (h : Ech C R m C t) : ∀ n, n ≤ R → t ≤ n → lastN m C n = t
  | 0, _, ht => by simp [lastN]; omega
  | n + 1, hn, ht => by
    simp only [lastN]
    by_cases e : t = n + 1
    · subst e
      rw [if_pos (nzB_iff.2 (h.full n (by omega)))]
    · rw [if_neg, ech_last h n (by omega) (by omega)]
      intro hz
      obtain ⟨k, hk, hne⟩ := nzB_iff.1 hz
      exact hne (h.zero n (by omega) (by omega) k hk)
theorem ech_full {C R : Nat} {m : List Int} {t : Nat} (h : Ech C R m C t) (ht : t ≤ R) : (List.range R).filter (nzB m C) = List.range t := by
  have e : List.range R = List.range t ++ List.range' t (R - t) := by
    rw [List.range_eq_range', List.range_eq_range', show (0 : Nat) = 0 from rfl]
    have := List.range'_append (s := 0) (m := t) (n := R - t) (step := 1)
    simp at this
    rw [this]; congr 1; omega
  rw [e, List.filter_append]
  have h1 : (List.range t).filter (nzB m C) = List.range t := List.filter_eq_self.2 fun i hi => nzB_iff.2 (h.full i (List.mem_range.1 hi))
  have h2 : (List.range' t (R - t)).filter (nzB m C) = [] := List.filter_eq_nil_iff.2 fun i hi hz => by
    rw [List.mem_range'_1] at hi
    obtain ⟨k, hk, hne⟩ := nzB_iff.1 hz
    exact hne (h.zero i (by omega) (by omega) k hk)
  rw [h1, h2, List.append_nil]
def rowL (m : List Int) (C i : Nat) : List Int := (m.drop (i * C)).take C
theorem flat_rows {m : List Int} {C : Nat} : ∀ {t : Nat}, t * C ≤ m.length → ((List.range t).map (rowL m C)).flatten = m.take (t * C)
  | 0, _ => by simp
  | t + 1, h => by
    rw [Nat.add_mul, Nat.one_mul] at h ⊢
    rw [List.range_succ, List.map_append, List.flatten_append, flat_rows (by omega)]
    simp only [List.map_cons, List.map_nil, List.flatten_cons, List.flatten_nil, List.append_nil]
    unfold rowL
    rw [List.take_add]
/-- The basis: so many rows, and the cells. -/
def basN (s : HS) (C R : Nat) : Nat := lastN s.1 C R
end Go.Proofs.Ythlncohllbmapaa
