/-
  l32Put: a simplex put into its place, once.
-/
import Derived.Test.YtneeelebnnfbeaaZBase
import Derived.Test.YtneeelebnnfbeaaZOrder
import Derived.Test.YtneeelebnnfbeaaZIsMat
set_option maxHeartbeats 8000000
set_option maxRecDepth 100000
namespace Go.Proofs.Ytneeelebnnfbeaa
open Go.RowKit
theorem RdCells.put {w : World} {S : Nat → Prop} {vs : List Value} {l : List (List Int)} {k : Nat} {b : Option Addr} {c : Nat} {s : List Int} (h : RdCells w S vs l) (hl : vs.length = l.length) (hk : k ≤ l.length) (hs : RdI w S b s.length c s) :
  RdCells w S ((vs.take k ++ [.slice b s.length c]) ++ vs.drop k) ((l.take k ++ [s]) ++ l.drop k) := by
 intro i xs hi
 have e1 : (vs.take k ++ [Value.slice b s.length c]).length = k + 1 := by simp; omega
 have e2 : (l.take k ++ [s]).length = k + 1 := by simp; omega
 by_cases h1 : i < k + 1
 ·rw [List.getElem?_append_left (by omega)] at hi ⊢
  by_cases h2 : i < k
  ·rw [List.getElem?_append_left (by simp; omega), List.getElem?_take_of_lt h2] at hi ⊢
   exact h i xs hi
  ·obtain rfl : i = k := by omega
   rw [List.getElem?_append_right (by simp; omega)] at hi
   rw [List.getElem?_append_right (by simp; omega)]
   have e3 : i - (l.take i).length = 0 := by simp; omega
   have e4 : i - (vs.take i).length = 0 := by simp; omega
   rw [e3] at hi
   rw [e4]
   simp at hi
   subst hi
   exact ⟨b, c, rfl, hs⟩
 ·rw [List.getElem?_append_right (by omega), List.getElem?_drop] at hi
  rw [List.getElem?_append_right (by omega), List.getElem?_drop]
  rw [e2] at hi
  rw [e1]
  exact h _ xs hi
theorem RdCells.one {w : World} {S : Nat → Prop} {vs : List Value} {l : List (List Int)} (h : RdCells w S vs l) (hl : vs.length = l.length) : ∀ u ∈ vs, u.oneCell' = true := by
 intro u hu
 obtain ⟨i, hi, rfl⟩ := List.mem_iff_getElem.1 hu
 obtain ⟨b, c, h1, _⟩ := h i _ (List.getElem?_eq_getElem (by omega))
 rw [List.getElem?_eq_getElem hi] at h1
 rw [Option.some.inj h1]; rfl
end Go.Proofs.Ytneeelebnnfbeaa

namespace Go.Proofs.Ytneeelebnnfbeaa
open Go.RowKit
theorem beforeB_irr (a : List Int) : beforeB a a = false := by unfold beforeB; rw [if_pos rfl]; exact lessL_self a
end Go.Proofs.Ytneeelebnnfbeaa
