/-
  The reference's l1In: whether a number lies between two.
-/
import Derived.Test.YthlncohllbmapaaFacts
namespace Go.Proofs.Ythlncohllbmapaa
open Go.RowKit

def inB (x lo hi : Int) : Bool := decide (lo ≤ x) && decide (x ≤ hi)

set_option maxHeartbeats 400000 in
theorem l1In_c (x lo hi : Int) (w : World) : Calls Try.prog 36 #[.int .i64 x, .int .i64 lo, .int .i64 hi] w fun e w' => e = .returned (.bool (inB x lo hi)) ∧ w = w' := by
  unfold inB
  by_cases h1 : lo ≤ x
  · have e1 : decide (lo ≤ x) = true := by simpa using h1
    go_enter Try.func36, Try.ntmps36
    go_wp2
    all_goals (go_ret; exact ⟨ret_bool (by simp [*]), rfl⟩)
  · have e1 : decide (lo ≤ x) = false := by simpa using h1
    go_enter Try.func36, Try.ntmps36
    go_wp2
    all_goals (go_ret; exact ⟨ret_bool (by simp [*]), rfl⟩)

theorem l1In_q {x lo hi : Int} {b : Bool} (h : inB x lo hi = b) (w : World) : Calls Try.prog 36 #[.int .i64 x, .int .i64 lo, .int .i64 hi] w fun e w' => e = .returned (.bool b) ∧ w' = w :=
  (l1In_c x lo hi w).mono fun _ _ ⟨a, c⟩ => ⟨h ▸ a, c.symm⟩

end Go.Proofs.Ythlncohllbmapaa
