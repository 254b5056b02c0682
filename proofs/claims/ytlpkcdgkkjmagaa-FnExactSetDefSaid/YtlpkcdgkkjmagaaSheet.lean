/-
  IsSheet: plain part.
-/
import Derived.Test.YtlpkcdgkkjmagaaFindDef
import Derived.Test.YtlpkcdgkkjmagaaIsDefS
namespace Go.Proofs.Ytlpkcdgkkjmagaa
open Go.RowKit

theorem firstIdx_take {α : Type} {f : α → Bool} : ∀ {l : List α} {k : Nat}, 0 ≤ firstIdx f (l.take k) → firstIdx f l = firstIdx f (l.take k)
  | [], k, h => by simp
  | x :: r, 0, h => by simp [firstIdx] at h
  | x :: r, k + 1, h => by
    simp only [List.take_succ_cons, firstIdx] at h ⊢
    by_cases hx : f x = true
    · simp [hx]
    · simp only [hx] at h ⊢
      by_cases h0 : firstIdx f (r.take k) < 0
      · rw [if_pos h0] at h; simp at h
      · rw [firstIdx_take (l := r) (k := k) (by omega)]
theorem firstIdx_self {α : Type} {f : α → Bool} {l : List α} {k : Nat} {x : α} (hk : l[k]? = some x) (hx : f x = true) : (firstIdx f l == (k : Int)) = decide (firstIdx f (l.take k) < 0) := by
  rw [Bool.eq_iff_iff, beq_iff_eq, decide_eq_true_eq]
  constructor
  · intro h
    by_cases h0 : 0 ≤ firstIdx f (l.take k)
    · have h1 := firstIdx_take h0
      have h2 := (firstIdx_lo f (l.take k)).2
      have h3 := List.length_take_le k l
      omega
    · omega
  · intro h
    refine firstIdx_at (fun y hy => ?_) hk hx
    have := mt (firstIdx_mem f (l.take k)).2 (by omega)
    simp only [Bool.not_eq_true, List.any_eq_false] at this
    simpa using this y hy
def defGood (l : List Dfn) (k : Nat) : Bool := match l[k]? with
  | some d => isDefB d && decide (findName (l.take k) d.name < 0)
  | none => true
def sheetB (l : List Dfn) : Bool := (List.range l.length).all (defGood l) && decide (l.length ≤ 12)
theorem sheet_no {l : List Dfn} {k : Nat} (hk : k < l.length) (h : defGood l k = false) : sheetB l = false := by
  unfold sheetB
  rw [show (List.range l.length).all (defGood l) = false from List.all_eq_false.2 ⟨k, List.mem_range.2 hk, by simp [h]⟩]; rfl
theorem sheet_yes {l : List Dfn} (h : ∀ k, k < l.length → defGood l k = true) : sheetB l = decide (l.length ≤ 12) := by
  unfold sheetB
  rw [List.all_eq_true.2 fun k hk => h k (List.mem_range.1 hk)]; rfl
theorem findName_self {l : List Dfn} {k : Nat} {d : Dfn} (hk : l[k]? = some d) : (findName l d.name == (k : Int)) = decide (findName (l.take k) d.name < 0) :=
  firstIdx_self (α := Dfn) (f := fun e => e.name.toList == d.name.toList) hk (by simp)
end Go.Proofs.Ytlpkcdgkkjmagaa
