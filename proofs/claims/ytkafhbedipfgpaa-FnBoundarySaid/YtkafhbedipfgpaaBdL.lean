/-
  Boundaries have no boundary: as the law asks it.
-/
import Derived.Test.YtkafhbedipfgpaaBd
namespace Go.Proofs.Ytkafhbedipfgpaa

theorem bRow_num (k : Int) (C : List (List Int)) (s : List Int) (base : Nat) : ∀ (x : Nat) (cells : List Int), NumL cells → NumL (bRow k C s base x cells)
  | 0, _, h => h
  | x + 1, cells, h => by
    have ih := bRow_num k C s base x cells h
    unfold bRow; split
    · intro y hy
      rcases List.mem_or_eq_of_mem_set hy with h1 | h1
      · exact ih y h1
      · subst h1; have := sgn_rng x; omega
    · exact ih
theorem bRows_num (k : Int) (R C : List (List Int)) : ∀ i, NumL (bRows k R C i)
  | 0 => fun x hx => by rw [(List.mem_replicate.1 hx).2]; omega
  | i + 1 => by unfold bRows; exact bRow_num _ _ _ _ _ _ (bRows_num k R C i)
theorem numsB_of {l : List Int} (h : NumL l) : numsB l = true := List.all_eq_true.2 fun x hx => isNumB_iff.2 (h x hx)
theorem isMatB_of {R C : Nat} {l : List Int} (hR : R ≤ 24) (hC : C ≤ 24) (hl : l.length = R * C) (h : NumL l) : isMatB { rows := R, cols := C, cells := l } = true := by
  unfold isMatB shapeB
  rw [numsB_of h, Bool.and_true, decide_eq_true_eq]
  exact ⟨by simp, by simp; omega, by simp, by simp; omega, by simp [hl]⟩
theorem bound_mat {l : List (List Int)} (h : IsCplx l) (k : Int) : isMatB (boundM l k) = true :=
  isMatB_of (cplx_few h k) (cplx_few h (k - 1)) (bRows_len _ _ _ _) (bRows_num _ _ _ _)
theorem mulM_zero {A B : Mat} {R N C : Nat} (hr : A.rows = R) (hn : A.cols = N) (hc : B.cols = C) (h : ∀ p q, p < R → q < C → dotN A.cells B.cells N C p q N = 0) : ∀ y ∈ (mulM A B).cells, y = 0 := by
  rw [mulM_cells hr hn hc]
  exact mRows_zero h
theorem mulM_mat {A B : Mat} {R N C : Nat} (hr : A.rows = R) (hn : A.cols = N) (hc : B.cols = C) (hR : R ≤ 24) (hC : C ≤ 24) (h : ∀ y ∈ (mulM A B).cells, y = 0) : isMatB (mulM A B) = true := by
  have e : mulM A B = { rows := (R : Int), cols := (C : Int), cells := mRows A.cells B.cells N C R R } := by
    have := mulM_cells (A := A) (B := B) hr hn hc
    rw [← this, ← hr, ← hc]; rfl
  rw [e] at h ⊢
  exact isMatB_of hR hC (mRows_len _ _ _ _ _ _) fun x hx => by rw [h x hx]; omega
/-- A product that is nothing but zeros. -/
theorem mul_zero {A B : Mat} {R N C : Nat} (hA : isMatB A = true) (hB : isMatB B = true) (hr : A.rows = R) (hn : A.cols = N) (hn' : B.rows = N) (hc : B.cols = C) (hR : R ≤ 24) (hC : C ≤ 24) (h : ∀ p q, p < R → q < C → dotN A.cells B.cells N C p q N = 0) :
    mulOk A B = true ∧ ∀ y ∈ (mulB A B).cells, y = 0 := by
  have hz := mulM_zero hr hn hc h
  have hm := mulM_mat hr hn hc hR hC hz
  have hf : mulFit A B = true := by unfold mulFit; rw [hA, hB, hn, hn']; simp
  refine ⟨by unfold mulOk; rw [hf, hm]; rfl, ?_⟩
  unfold mulB
  rw [if_pos hf]; unfold okM; rw [if_pos hm]; exact hz
theorem boundB_yes {l : List (List Int)} {k : Int} (h : boundOk l k = true) : boundB l k = boundM l k ∧ IsCplx l ∧ 0 ≤ k ∧ k ≤ 4 := by
  refine ⟨by unfold boundB; rw [if_pos h], ?_⟩
  unfold boundOk inB at h
  simp only [Bool.and_eq_true, decide_eq_true_eq] at h
  exact ⟨isCplxB_iff.1 h.1, h.2⟩
theorem bdd {l : List (List Int)} {k : Int} (h1 : boundOk l k = true) (h2 : boundOk l (k - 1) = true) : mulOk (boundB l k) (boundB l (k - 1)) = true ∧ ∀ y ∈ (mulB (boundB l k) (boundB l (k - 1))).cells, y = 0 := by
  obtain ⟨e1, hC, _, _⟩ := boundB_yes h1
  obtain ⟨e2, _, h3, _⟩ := boundB_yes h2
  rw [e1, e2]
  exact mul_zero (bound_mat hC k) (bound_mat hC (k - 1)) rfl rfl rfl rfl (cplx_few hC k) (cplx_few hC (k - 1 - 1)) fun p q hp hq => bound_dot hC (by omega) hp hq
theorem dotN_row {a b : List Int} {n c i : Nat} {j : Nat} : ∀ k, k ≤ n → dotN ((a.drop (i * n)).take n) b n c 0 j k = dotN a b n c i j k
  | 0, _ => rfl
  | k + 1, hk => by
    simp only [dotN]
    rw [dotN_row k (by omega)]
    congr 2
    rw [List.getD_eq_getElem?_getD, List.getD_eq_getElem?_getD, List.getElem?_take, if_pos (by omega), List.getElem?_drop]
    congr 2; omega
/-- The rows of a boundary are cycles. -/
theorem bdd_row {l : List (List Int)} {k : Int} (h1 : boundOk l k = true) (h2 : boundOk l (k - 1) = true) {i : Nat} (hi : i < (facesB l k).length) :
    isCycB l (k - 1) (((boundB l k).cells.drop (i * (facesB l (k - 1)).length)).take (facesB l (k - 1)).length) = true := by
  obtain ⟨e1, hC, _, _⟩ := boundB_yes h1
  obtain ⟨e2, _, h3, _⟩ := boundB_yes h2
  rw [e1]
  generalize hN : (facesB l (k - 1)).length = N
  have hlen : (boundM l k).cells.length = (facesB l k).length * N := by rw [← hN]; exact bRows_len _ _ _ _
  have hrl : (((boundM l k).cells.drop (i * N)).take N).length = N := by
    have : (i + 1) * N ≤ (facesB l k).length * N := Nat.mul_le_mul_right _ hi
    rw [Nat.add_mul] at this
    simp; omega
  have hN24 : N ≤ 24 := by rw [← hN]; exact cplx_few hC (k - 1)
  have hnum : NumL (((boundM l k).cells.drop (i * N)).take N) := fun x hx => bRows_num _ _ _ _ x (List.mem_of_mem_drop (List.mem_of_mem_take hx))
  have hmz := mul_zero (A := rowM (((boundM l k).cells.drop (i * N)).take N)) (B := boundM l (k - 1)) (R := 1) (N := N) (C := (facesB l (k - 1 - 1)).length)
    (by unfold rowM; rw [hrl]; exact isMatB_of (R := 1) (by omega) hN24 (by rw [hrl]; omega) hnum) (bound_mat hC (k - 1)) rfl (by unfold rowM; rw [hrl]) (by rw [← hN]; rfl) rfl (by omega) (cplx_few hC _)
    (fun p q hp hq => by
      obtain rfl : p = 0 := by omega
      show dotN (((boundM l k).cells.drop (i * N)).take N) _ N _ 0 q N = 0
      rw [dotN_row N (Nat.le_refl _)]
      have := bound_dot hC (k := k) (by omega) hi hq
      rwa [hN] at this)
  unfold isCycB
  rw [h2, e2, hmz.1, zeroL_yes (fun x hx => by rw [hmz.2 x hx]; rfl)]
  rfl
end Go.Proofs.Ytkafhbedipfgpaa
