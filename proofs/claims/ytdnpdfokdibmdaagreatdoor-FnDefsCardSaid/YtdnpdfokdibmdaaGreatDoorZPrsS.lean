/-
  Numbers read back from their texts: the reference's ParseInt.
-/
import Derived.Test.YtdnpdfokdibmdaaGreatDoorZPrs
import Derived.Test.YtdnpdfokdibmdaaGreatDoorZBase
import Derived.Test.YtdnpdfokdibmdaaGreatDoorZStr
namespace Go.Proofs.YtdnpdfokdibmdaaGreatDoor
open Go.RowKit

theorem bytes_at (s : ByteArray) {k : Nat} (h : k < s.size) : s.data.toList[k]? = some s[k] := by
  rw [List.getElem?_eq_getElem (by simpa using h)]; simp; rfl
theorem bytes_len (s : ByteArray) : s.data.toList.length = s.size := by rw [Array.length_toList]; rfl
def sg (s : ByteArray) : Nat := if negL s.data.toList then 1 else 0
theorem sg_le (s : ByteArray) : sg s ≤ s.size ∧ sg s ≤ 1 := by
  unfold sg
  split
  · rename_i h
    refine ⟨?_, Nat.le_refl _⟩
    unfold negL at h
    rw [← bytes_len]
    cases hl : s.data.toList with
    | nil => rw [hl] at h; simp at h
    | cons => simp
  · omega
theorem tail_len (s : ByteArray) : (tailL s.data.toList).length + sg s = s.size := by
  have h1 := (sg_le s).1
  have h2 := bytes_len s
  unfold tailL
  unfold sg at *
  by_cases hn : negL s.data.toList = true
  · rw [if_pos hn] at h1
    rw [if_pos hn, if_pos hn, List.length_drop]; omega
  · rw [if_neg hn, if_neg hn]; omega
theorem tail_at (s : ByteArray) {d : Nat} (h : d + sg s < s.size) : (tailL s.data.toList)[d]? = some s[d + sg s] := by
  have e := bytes_at s h
  unfold tailL
  unfold sg at e
  split at e
  · rename_i hn; rw [if_pos hn]; rw [List.getElem?_drop, Nat.add_comm]; simp only [sg, hn, if_true]; exact e
  · rename_i hn; rw [if_neg hn]; simp only [sg, hn]; exact e
theorem tail_at' (s : ByteArray) {d i : Nat} (hid : i = d + sg s) (h : i < s.size) : (tailL s.data.toList)[d]? = some s[i] := by subst hid; exact tail_at s h
theorem head_at (s : ByteArray) (h : 0 < s.size) : negL s.data.toList = ((s[0].toNat : Int) == 45) := by
  have e := bytes_at s h
  unfold negL
  rw [List.head?_eq_getElem?, e]
  rw [Bool.eq_iff_iff, beq_iff_eq, beq_iff_eq, Option.some.injEq]
  refine ⟨fun e => by rw [e]; rfl, fun e => UInt8.toNat_inj.1 (by have : ((45 : UInt8)).toNat = 45 := rfl; omega)⟩
/-- How far the reading has come. -/
structure PI (s : ByteArray) (i d u : Nat) : Prop where
  read : Lib.decFrom 0 ((tailL s.data.toList).take d) = some u
  at_ : i = d + sg s ∨ (i = 0 ∧ d = 0)
  le : d ≤ 12
theorem PI.lt {s : ByteArray} {i d u : Nat} (h : PI s i d u) : u < 1000000000000 := by
  have := Lib.decFrom_lt _ _ _ h.read
  have h2 : ((tailL s.data.toList).take d).length ≤ 12 := by simp; have := h.le; omega
  have h3 : (10 : Nat) ^ ((tailL s.data.toList).take d).length ≤ 10 ^ 12 := Nat.pow_le_pow_right (by decide) h2
  omega

end Go.Proofs.YtdnpdfokdibmdaaGreatDoor
