/-
  slices.Sort on an owned list of integers (by the library's contract).
-/
import Derived.Test.YteianlmindckpaaSortInt
import Derived.Test.YteianlmindckpaaInts
namespace Go.Proofs.Yteianlmindckpaa
open Go.RowKit

section
variable {α : Type} [Inhabited α] {enc : α → Value} {w : World} {blk m : Nat} {dk : Array α} {os : Array Obj}
theorem keep_sorted : Keep (fun q => q ≠ blk) w (Go.Sort.grow (Go.Sort.putRow enc (Go.Sort.ahead w m) blk 0 dk) os) := by
  have hsz : (Go.Sort.putRow enc (Go.Sort.ahead w m) blk 0 dk).heap.size = w.heap.size := Go.Sort.size_putRow _ _ _ _ _
  refine ⟨rfl, rfl, rfl, ?_, fun x hx => ?_, fun k hk hne => ?_⟩
  · rw [Go.Sort.size_grow, hsz]; omega
  · rw [Go.Sort.frozen?_grow _ _ _ (by rw [hsz]; exact hx), Go.Sort.frozen?_putRow]; rfl
  · rw [Go.Sort.heap_grow_old _ _ (by rw [hsz]; exact hk)]
    unfold Go.Sort.putRow Go.Sort.mapBlock
    rw [Array.getElem?_modify, if_neg (fun e => hne e.symm)]; rfl
theorem row_sorted {cur : Array Value} {e : TypeId} {fr : Nat × Nat} (hb : w.heap[blk]? = some (.cells cur e fr)) :
    (Go.Sort.grow (Go.Sort.putRow enc (Go.Sort.ahead w m) blk 0 dk) os).heap[blk]? = some (.cells (Go.Sort.putCells enc 0 dk cur) e fr) := by
  have hlt := (Array.getElem?_eq_some_iff.1 hb).1
  rw [Go.Sort.heap_grow_old _ _ (by rw [Go.Sort.size_putRow]; exact hlt)]
  unfold Go.Sort.putRow Go.Sort.mapBlock
  rw [Array.getElem?_modify, if_pos rfl]
  show (w.heap[blk]?).map _ = _
  rw [hb]; rfl
theorem putCells_to {cur : Array Value} (h : dk.size ≤ cur.size) : (Go.Sort.putCells enc 0 dk cur).toList.take dk.size = dk.toList.map enc := by
  refine List.ext_getElem? fun k => ?_
  unfold Go.Sort.putCells
  by_cases hk : k < dk.size
  · rw [List.getElem?_take_of_lt hk, Array.getElem?_toList, Array.getElem?_mapIdx, List.getElem?_map, Array.getElem?_toList]
    rw [Array.getElem?_eq_getElem (by omega), Array.getElem?_eq_getElem hk]
    simp [hk]
  · rw [List.getElem?_eq_none (by simp; omega), List.getElem?_eq_none (by simp; omega)]
end
theorem sortInts_c (g n cap : Nat) (xs : List Int) (w : World) (h : Own w 3 1 (some ⟨g, 0, none⟩) n cap (ints xs)) (hn : n ≤ 1048576) :
    Calls Try.prog 26 #[.slice (some ⟨g, 0, none⟩) n cap] w fun e w' =>
      e = .returned (.tuple #[]) ∧ Own w' 3 1 (some ⟨g, 0, none⟩) n cap (ints (xs.mergeSort fun x y => decide (x ≤ y))) ∧ Keep (fun q => q ≠ g) w w' := by
  have hl : xs.length = n := by have := h.len; simpa using this
  obtain ⟨_, cur, hcur, hsz, htake⟩ := h.block _ rfl
  have hglt := (Array.getElem?_eq_some_iff.1 hcur).1
  have hH : Go.Sort.Holds (Value.int .i64) w g 0 xs.toArray := fun j hj => by
    have hj' : j < xs.length := by simpa using hj
    have e1 : xs.toArray[j]! = xs[j] := by rw [getElem!_pos _ j hj]; simp
    rw [e1, Nat.zero_add]
    exact ⟨h.cell (by unfold ints; rw [List.getElem?_map, List.getElem?_eq_getElem hj']; rfl), h.free j⟩
  have hcon := Go.Proofs.Any.slices_Sort_int sortIntLay g 0 cap xs w hH hglt (by omega)
  rw [hl] at hcon
  refine Calls.mono hcon ?_
  rintro e w' ⟨rfl, q, os, rfl⟩
  have hml : (xs.mergeSort fun x y => decide (x ≤ y)).length = n := by rw [List.length_mergeSort]; exact hl
  refine ⟨rfl, ⟨by simp [hml], h.le, h.max, (fun h => by cases h), fun p hp => ?_⟩, keep_sorted⟩
  obtain rfl := Option.some.inj hp
  refine ⟨rfl, _, row_sorted hcur, ?_, ?_⟩
  · unfold Go.Sort.putCells; simpa using hsz
  · have hle := h.le
    have := putCells_to (enc := Value.int .i64) (dk := (xs.mergeSort fun x y => decide (x ≤ y)).toArray) (cur := cur) (by simp; omega)
    rw [List.size_toArray, hml, List.toList_toArray] at this
    rw [Nat.mul_one]; exact this
end Go.Proofs.Yteianlmindckpaa
