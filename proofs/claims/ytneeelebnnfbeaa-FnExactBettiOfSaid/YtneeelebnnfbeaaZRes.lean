/-
  Residues of a prime: plain (primes, inverses by Euclid, the echelon form's rank).
-/
import Derived.Test.YtneeelebnnfbeaaZHermF
import Derived.Test.YtneeelebnnfbeaaZInts
import Derived.Test.YtneeelebnnfbeaaZBase
import Derived.Test.YtneeelebnnfbeaaZStack
set_option maxHeartbeats 8000000
set_option maxRecDepth 100000
namespace Go.Proofs.Ytneeelebnnfbeaa
open Go.RowKit
def ResL (p : Int) (m : List Int) : Prop := ∀ x ∈ m, 0 ≤ x ∧ x < p
theorem ResL.getD {p : Int} {m : List Int} (hp : 2 ≤ p) (h : ResL p m) (i : Nat) : 0 ≤ m.getD i 0 ∧ m.getD i 0 < p := by
 by_cases hi : i < m.length
 ·have e : m.getD i 0 = m[i] := by simp [List.getD, List.getElem?_eq_getElem hi]
  rw [e]; exact h _ (List.getElem_mem hi)
 ·have e : m.getD i 0 = 0 := by simp [List.getD, List.getElem?_eq_none (show m.length ≤ i by omega)]
  rw [e]; omega
def elK (m : List Int) (C j : Nat) : Nat → Nat → Nat
 | 0, k => k
 | n + 1, k => if cell m C k j = 0 then elK m C j n (k + 1) else k
theorem elK_zero {m : List Int} {C j n k : Nat} (h : cell m C k j = 0) : elK m C j (n + 1) k = elK m C j n (k + 1) := by simp only [elK]; rw [if_pos h]
theorem elK_hit {m : List Int} {C j n k : Nat} (h : cell m C k j ≠ 0) : elK m C j n k = k := by
 cases n with
 | zero => rfl
 | succ n => simp only [elK]; rw [if_neg h]
def elM1 (m : List Int) (C t k : Nat) : List Int := if k = t then m else swR m C k t
theorem elM1_len (m : List Int) (C t k : Nat) : (elM1 m C t k).length = m.length := by
 unfold elM1; split
 ·rfl
 ·exact swN_len ..
end Go.Proofs.Ytneeelebnnfbeaa

namespace Go.Proofs.Ytneeelebnnfbeaa
open Go.RowKit
end Go.Proofs.Ytneeelebnnfbeaa

namespace Go.Proofs.Ytneeelebnnfbeaa
open Go.RowKit
end Go.Proofs.Ytneeelebnnfbeaa

namespace Go.Proofs.Ytneeelebnnfbeaa
open Go.RowKit
end Go.Proofs.Ytneeelebnnfbeaa
