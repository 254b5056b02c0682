/-
  The reference's l4Split.
-/
import Derived.Test.YtdnpdfokdibmdaaGreatDoorZSpl
namespace Go.Proofs.YtdnpdfokdibmdaaGreatDoor
open Go.RowKit

theorem bytesAt (s : ByteArray) {k : Nat} (h : k < s.size) : s.data.toList[k]? = some s[k] := by
  rw [List.getElem?_eq_getElem (by simpa using h)]; simp; rfl
theorem bytesLen (s : ByteArray) : s.data.toList.length = s.size := by rw [Array.length_toList]; rfl
theorem byte_eq {a b : UInt8} : ((a.toNat : Int) == (b.toNat : Int)) = (some a == some b) := by
  rw [Bool.eq_iff_iff, beq_iff_eq, beq_iff_eq, Option.some.injEq]
  refine ⟨fun e => UInt8.toNat_inj.1 (by omega), fun e => by rw [e]⟩

end Go.Proofs.YtdnpdfokdibmdaaGreatDoor
