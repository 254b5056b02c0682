/-
  Matrices read back from their texts: the plain function.
-/
import Derived.Test.YtdnpdfokdibmdaaGreatDoorZPrs
import Derived.Test.YtdnpdfokdibmdaaGreatDoorZFmtS
import Derived.Test.YtdnpdfokdibmdaaGreatDoorZSpl
namespace Go.Proofs.YtdnpdfokdibmdaaGreatDoor
open Go.RowKit

def pmarks : List UInt8 := [120, 91, 93, 59, 32]
def pm (c : UInt8) : Bool := pmarks.contains c
theorem splitGo_in {p : UInt8 → Bool} {r : List UInt8} : ∀ {a cur : List UInt8}, (∀ x ∈ a, p x = false) → splitGo p cur (a ++ r) = splitGo p (cur ++ a) r
  | [], cur, _ => by simp
  | x :: a, cur, h => by
    have hx := h x (by simp)
    simp only [List.cons_append, splitGo, hx]
    rw [if_neg (by simp), splitGo_in (a := a) fun y hy => h y (by simp [hy])]
    simp
theorem pm_itoa {n : Int} : ∀ x ∈ Lib.itoa n, pm x = false := fun x hx => by
  have := itoa_mem hx
  unfold pm pmarks
  rw [Bool.eq_false_iff]
  intro e
  simp only [List.contains_eq_mem, List.mem_cons, List.not_mem_nil, or_false, decide_eq_true_eq] at e
  rcases e with rfl | rfl | rfl | rfl | rfl <;> simp at this
/-- The pieces of the cells, behind the first. -/
theorem cells_pieces {C : Nat} : ∀ {l : List Int} {k : Nat} {cur : List UInt8}, 0 < k → splitGo pm cur (cellsT C k l ++ [93]) = cur :: (l.map Lib.itoa ++ [[]])
  | [], k, cur, _ => rfl
  | x :: l, k, cur, hk => by
    have ih := cells_pieces (C := C) (l := l) (k := k + 1) (cur := Lib.itoa x) (by omega)
    by_cases hm : k % C = 0
    · simp only [cellsT]
      rw [if_pos ⟨hk, hm⟩]
      simp only [List.cons_append, List.nil_append, List.append_assoc]
      rw [show splitGo pm cur (59 :: (Lib.itoa x ++ (cellsT C (k + 1) l ++ [93]))) = cur :: splitGo pm [] (Lib.itoa x ++ (cellsT C (k + 1) l ++ [93])) from rfl]
      rw [splitGo_in pm_itoa, List.nil_append, ih]; simp
    · simp only [cellsT]
      rw [if_neg (fun e => hm e.2), if_pos hk]
      simp only [List.cons_append, List.nil_append, List.append_assoc]
      rw [show splitGo pm cur (32 :: (Lib.itoa x ++ (cellsT C (k + 1) l ++ [93]))) = cur :: splitGo pm [] (Lib.itoa x ++ (cellsT C (k + 1) l ++ [93])) from rfl]
      rw [splitGo_in pm_itoa, List.nil_append, ih]; simp
theorem cells_pieces0 {C : Nat} (l : List Int) : splitGo pm [] (cellsT C 0 l ++ [93]) = (if l = [] then [[]] else l.map Lib.itoa) ++ [[]] := by
  cases l with
  | nil => rfl
  | cons x l =>
    simp only [cellsT]
    rw [if_neg (fun e => by omega), if_neg (by omega), if_neg (by simp)]
    simp only [List.nil_append, List.append_assoc]
    rw [splitGo_in pm_itoa, List.nil_append, cells_pieces (by omega)]; simp
theorem fmt_pieces {R C : Nat} {cells : List Int} (h : isMatB ⟨R, C, cells⟩ = true) : splitGo pm [] (fmtM ⟨R, C, cells⟩) = Lib.itoa R :: Lib.itoa C :: ((if cells = [] then [[]] else cells.map Lib.itoa) ++ [[]]) := by
  rw [fmtM_head h]
  unfold headM
  simp only [List.append_assoc, List.cons_append, List.nil_append]
  rw [splitGo_piece (by rfl) pm_itoa, List.nil_append, splitGo_piece (by rfl) pm_itoa, List.nil_append, cells_pieces0]
def pcsM (s : List UInt8) : List (List UInt8) := splitGo pm [] s
def candM (s : List UInt8) : Mat := ⟨parIv ((pcsM s).getD 0 []), parIv ((pcsM s).getD 1 []), (((pcsM s).drop 2).dropLast).filterMap parI⟩
def parM (s : List UInt8) : Option Mat := if 4 ≤ (pcsM s).length ∧ s.length ≤ 8000 ∧ fmtM (candM s) = s then some (candM s) else none
theorem filter_itoa : ∀ {l : List Int}, (∀ x ∈ l, isNumB x = true) → (l.map Lib.itoa).filterMap parI = l
  | [], _ => rfl
  | x :: l, h => by
    simp only [List.map_cons]
    rw [List.filterMap_cons_some (parI_yes (h x (by simp)) rfl), filter_itoa fun y hy => h y (by simp [hy])]
theorem parI_nil : parI [] = none := parI_none fun n _ h => itoa_ne n h
theorem fmtM_cand {m : Mat} (h : isMatB m = true) : candM (fmtM m) = m ∧ 4 ≤ (pcsM (fmtM m)).length := by
  obtain ⟨R, C, hR, hC, hR24, hC24, hlen, hnum⟩ := isMatB_shape h
  obtain ⟨r, k, cells⟩ := m
  simp only at hR hC hlen hnum
  subst hR; subst hC
  unfold candM pcsM
  rw [fmt_pieces h]
  have e1 := (parI_v (parI_yes (s := Lib.itoa R) (n := (R : Int)) (isNumB_iff.2 (by omega)) rfl)).1
  have e2 := (parI_v (parI_yes (s := Lib.itoa C) (n := (C : Int)) (isNumB_iff.2 (by omega)) rfl)).1
  have e3 : ((if cells = [] then [[]] else cells.map Lib.itoa) : List (List UInt8)).filterMap parI = cells := by
    split
    · rename_i h0; rw [h0, List.filterMap_cons_none parI_nil]; rfl
    · exact filter_itoa fun x hx => isNumB_iff.2 (hnum x hx)
  have e4 : 1 ≤ ((if cells = [] then [[]] else cells.map Lib.itoa) : List (List UInt8)).length := by
    split
    · simp
    · rename_i h0; have := List.length_pos_iff.2 h0; simp; omega
  refine ⟨?_, by simp only [List.length_cons, List.length_append]; simp only [List.length_nil]; omega⟩
  simp only [List.getD_cons_zero, List.getD_cons_succ, e1, e2, List.drop_succ_cons, List.drop_zero, List.dropLast_concat, e3]
theorem parM_iff {s : List UInt8} {m : Mat} : parM s = some m ↔ isMatB m = true ∧ fmtM m = s := by
  constructor
  · intro h
    unfold parM at h
    split at h
    · rename_i hh
      obtain rfl := Option.some.inj h
      refine ⟨?_, hh.2.2⟩
      cases hm : isMatB (candM s) with
      | true => rfl
      | false =>
        exfalso
        have := hh.2.2
        rw [fmtM_no hm] at this
        rw [← this] at hh
        simp [pcsM, splitGo] at hh
    · cases h
  · rintro ⟨h1, rfl⟩
    obtain ⟨e1, e2⟩ := fmtM_cand h1
    unfold parM
    rw [e1, if_pos ⟨e2, by have := fmtM_len m; omega, rfl⟩]
theorem parM_none {s : List UInt8} (h : ∀ m, isMatB m = true → fmtM m ≠ s) : parM s = none := by
  cases hp : parM s with
  | none => rfl
  | some m => exact absurd (parM_iff.1 hp).2 (h m (parM_iff.1 hp).1)
def zeroM : Mat := ⟨0, 0, []⟩
def parMv (s : List UInt8) : Mat := (parM s).getD zeroM
def parMb (s : List UInt8) : Bool := (parM s).isSome
theorem parM_v {s : List UInt8} {m : Mat} (h : parM s = some m) : parMv s = m ∧ parMb s = true := by unfold parMv parMb; rw [h]; exact ⟨rfl, rfl⟩
theorem parM_n {s : List UInt8} (h : parM s = none) : parMv s = zeroM ∧ parMb s = false := by unfold parMv parMb; rw [h]; exact ⟨rfl, rfl⟩
theorem parMv_mat (s : List UInt8) : isMatB (parMv s) = true := by
  unfold parMv
  cases h : parM s with
  | none => rfl
  | some m => exact (parM_iff.1 h).1
end Go.Proofs.YtdnpdfokdibmdaaGreatDoor
