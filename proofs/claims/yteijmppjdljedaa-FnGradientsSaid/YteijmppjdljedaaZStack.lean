/-
  StackRows: the program's and the reference's.
-/
import Derived.Test.YteijmppjdljedaaZBasI
namespace Go.Proofs.Yteijmppjdljedaa
open Go.RowKit

def stackOk (a b : Mat) : Bool := isMatB a && (isMatB b && (decide (a.cols = b.cols) && decide (a.rows + b.rows ≤ 24)))
def stackB (a b : Mat) : Mat := if stackOk a b = true then { rows := a.rows + b.rows, cols := a.cols, cells := a.cells ++ b.cells } else { rows := 0, cols := 0, cells := [] }
theorem stack_no {a b : Mat} (h : stackOk a b = false) : stackOk a b = false ∧ stackB a b = { rows := 0, cols := 0, cells := [] } := by
  unfold stackB; rw [h]; exact ⟨rfl, rfl⟩
theorem stack_yes {a b : Mat} (h : stackOk a b = true) : stackOk a b = true ∧ stackB a b = { rows := a.rows + b.rows, cols := a.cols, cells := a.cells ++ b.cells } := by
  unfold stackB; rw [h]; exact ⟨rfl, rfl⟩
theorem stackB_mat (a b : Mat) : isMatB (stackB a b) = true := by
  cases h : stackOk a b with
  | false => rw [(stack_no h).2]; rfl
  | true =>
    rw [(stack_yes h).2]
    unfold stackOk at h
    simp only [Bool.and_eq_true, decide_eq_true_eq] at h
    obtain ⟨h1, h2, h3, h4⟩ := h
    obtain ⟨R, C, e1, e2, hR, hC, hl, hn⟩ := isMatB_shape h1
    obtain ⟨R', C', e1', e2', hR', hC', hl', hn'⟩ := isMatB_shape h2
    have hcc : C = C' := by omega
    subst hcc
    have := isMatB_ok (R := R + R') (C := C) (l := a.cells ++ b.cells) (by omega) hC (by rw [List.length_append, hl, hl', Nat.add_mul]) (fun x hx => (List.mem_append.1 hx).elim (hn x) (hn' x))
    rw [e1, e1', e2]
    simpa using this
theorem isMatB_bd {m : Mat} (h : isMatB m = true) : bdM m ≤ 576 := by
  obtain ⟨R, C, _, _, hR, hC, hl, _⟩ := isMatB_shape h
  have hRC : R * C ≤ 24 * 24 := Nat.mul_le_mul hR hC
  unfold bdM; omega
end Go.Proofs.Yteijmppjdljedaa
