/-
  Boundaries have no boundary: as the law asks it.
-/
import Derived.Test.YtneeelebnnfbeaaZBd
set_option maxHeartbeats 8000000
set_option maxRecDepth 100000
namespace Go.Proofs.Ytneeelebnnfbeaa
theorem bRow_num (k : Int) (C : List (List Int)) (s : List Int) (base : Nat) : ∀ (x : Nat) (cells : List Int), NumL cells → NumL (bRow k C s base x cells)
 | 0, _, h => h
 | x + 1, cells, h => by
  have ih := bRow_num k C s base x cells h
  unfold bRow; split
  ·intro y hy
   rcases List.mem_or_eq_of_mem_set hy with h1 | h1
   ·exact ih y h1
   ·subst h1; have := sgn_rng x; omega
  ·exact ih
theorem bRows_num (k : Int) (R C : List (List Int)) : ∀ i, NumL (bRows k R C i)
 | 0 => fun x hx => by rw [(List.mem_replicate.1 hx).2]; omega
 | i + 1 => by unfold bRows; exact bRow_num _ _ _ _ _ _ (bRows_num k R C i)
theorem numsB_of {l : List Int} (h : NumL l) : numsB l = true := List.all_eq_true.2 fun x hx => isNumB_iff.2 (h x hx)
theorem isMatB_of {R C : Nat} {l : List Int} (hR : R ≤ 24) (hC : C ≤ 24) (hl : l.length = R * C) (h : NumL l) : isMatB { rows := R, cols := C, cells := l } = true := by
 unfold isMatB shapeB
 rw [numsB_of h, Bool.and_true, decide_eq_true_eq]
 exact ⟨by simp, by simp; omega, by simp, by simp; omega, by simp [hl]⟩
theorem bound_mat {l : List (List Int)} (h : IsCplx l) (k : Int) : isMatB (boundM l k) = true :=
 isMatB_of (cplx_few h k) (cplx_few h (k - 1)) (bRows_len _ _ _ _) (bRows_num _ _ _ _)
theorem mulM_zero {A B : Mat} {R N C : Nat} (hr : A.rows = R) (hn : A.cols = N) (hc : B.cols = C) (h : ∀ p q, p < R → q < C → dotN A.cells B.cells N C p q N = 0) : ∀ y ∈ (mulM A B).cells, y = 0 := by
 rw [mulM_cells hr hn hc]
 exact mRows_zero h
theorem mulM_mat {A B : Mat} {R N C : Nat} (hr : A.rows = R) (hn : A.cols = N) (hc : B.cols = C) (hR : R ≤ 24) (hC : C ≤ 24) (h : ∀ y ∈ (mulM A B).cells, y = 0) : isMatB (mulM A B) = true := by
 have e : mulM A B = { rows := (R : Int), cols := (C : Int), cells := mRows A.cells B.cells N C R R } := by
  have := mulM_cells (A := A) (B := B) hr hn hc
  rw [← this, ← hr, ← hc]; rfl
 rw [e] at h ⊢
 exact isMatB_of hR hC (mRows_len _ _ _ _ _ _) fun x hx => by rw [h x hx]; omega
theorem mul_zero {A B : Mat} {R N C : Nat} (hA : isMatB A = true) (hB : isMatB B = true) (hr : A.rows = R) (hn : A.cols = N) (hn' : B.rows = N) (hc : B.cols = C) (hR : R ≤ 24) (hC : C ≤ 24) (h : ∀ p q, p < R → q < C → dotN A.cells B.cells N C p q N = 0) :
  mulOk A B = true ∧ ∀ y ∈ (mulB A B).cells, y = 0 := by
 have hz := mulM_zero hr hn hc h
 have hm := mulM_mat hr hn hc hR hC hz
 have hf : mulFit A B = true := by unfold mulFit; rw [hA, hB, hn, hn']; simp
 refine ⟨by unfold mulOk; rw [hf, hm]; rfl, ?_⟩
 unfold mulB
 rw [if_pos hf]; unfold okM; rw [if_pos hm]; exact hz
end Go.Proofs.Ytneeelebnnfbeaa
