/-
  Matrices read back from their texts: the reference's ParseMatrix.
-/
import Derived.Test.YtdnpdfokdibmdaaGreatDoorZPrm
import Derived.Test.YtdnpdfokdibmdaaGreatDoorZPrsS
import Derived.Test.YtdnpdfokdibmdaaGreatDoorZSplS
import Derived.Test.YtdnpdfokdibmdaaGreatDoorZFmtS
namespace Go.Proofs.YtdnpdfokdibmdaaGreatDoor
open Go.RowKit

theorem getD_some {α : Type} {l : List α} {k : Nat} {x d : α} (h : l[k]? = some x) : l.getD k d = x := by rw [List.getD, h]; rfl
theorem filter_take {l : List (List UInt8)} {k : Nat} {x : List UInt8} (h : l[k]? = some x) : (l.take (k + 1)).filterMap parI = (l.take k).filterMap parI ++ (match parI x with | some n => [n] | none => []) := by
  rw [take_succ h, List.filterMap_append]
  congr 1
  cases hp : parI x with
  | none => rw [List.filterMap_cons_none hp]; rfl
  | some n => rw [List.filterMap_cons_some hp]; rfl
theorem filter_len (l : List (List UInt8)) : (l.filterMap parI).length ≤ l.length := List.length_filterMap_le _ _
theorem zeroM_own {w : World} {F : Nat → Prop} : OM w F (.agg #[.int .i64 0, .int .i64 0, .slice none 0 0]) zeroM :=
  ⟨none, 0, 0, rfl, ⟨by simp [zeroM], Nat.le_refl _, by unfold maxLen; omega, fun _ => rfl, fun p h => by cases h⟩, (fun x hx => by simp [zeroM] at hx), (fun g h => by cases h), ⟨by decide, by decide⟩, ⟨by decide, by decide⟩⟩

theorem RdS.piece {S : Nat → Prop} {w : World} {a : Option Addr} {n cap : Nat} {ps : List (List UInt8)} (h : RdS w S a n cap (ps.map bstr)) {k : Nat} (hk : k < n) :
    ∃ b off y, a = some ⟨b, off, none⟩ ∧ ps[k]? = some y ∧ b < w.heap.size ∧ w.cell? ⟨b, off + k, none⟩ = some (.string (bstr y)) := by
  obtain ⟨b, off, x, ha, hx, -, hb, hc⟩ := h.at hk
  rw [List.getElem?_map] at hx
  obtain ⟨y, hy, rfl⟩ := Option.map_eq_some_iff.1 hx
  exact ⟨b, off, y, ha, hy, hb, hc⟩
end Go.Proofs.YtdnpdfokdibmdaaGreatDoor
