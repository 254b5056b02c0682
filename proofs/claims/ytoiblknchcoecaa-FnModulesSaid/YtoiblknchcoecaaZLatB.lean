/-
  A basis spans the lattice of the rows and its rows are independent; the normal form of a vector of the lattice: plain.
-/
import Derived.Test.YtoiblknchcoecaaZOrdP
import Derived.Test.YtoiblknchcoecaaZSum
import Derived.Test.YtoiblknchcoecaaZStack
set_option maxHeartbeats 8000000
set_option maxRecDepth 100000
namespace Go.Proofs.Ytoiblknchcoecaa
--BODY
theorem basOk_parts {m : Mat} {C N : Nat} {b : List Int} (hb : Bas m C N b) (h : basOk m = true) : ∃ (R : Nat) (s : HS), m.rows = (R : Int) ∧ m.cells.length = R * C ∧ NumL m.cells ∧ R ≤ 24 ∧ herm m.cells R C = some s ∧ lastN s.1 C R = N ∧ N ≤ R ∧ Ech C R s.1 C N ∧ b = s.1.take (N * C) := by
 cases hB : isMatB m with
 | false =>
  have := (basB_none (m := m) (by unfold hermR; rw [hB]; rfl)).1
  rw [this] at h; cases h
 | true =>
  obtain ⟨R, C', hmr, hmc, hR, hC, hl, hnum⟩ := isMatB_shape hB
  have hcols := hb.cols
  obtain rfl : C' = C := by omega
  obtain ⟨mr, mc, cells⟩ := m
  simp only at hmr hmc hl hnum
  subst hmr
  subst hmc
  cases hh : herm cells R C' with
  | none =>
   have := (basB_none (m := { rows := (R : Int), cols := (C' : Int), cells := cells }) (by rw [hermR_mat hB]; exact hh)).1
   rw [this] at h; cases h
  | some s =>
   obtain ⟨hs, t, ht, hE⟩ := herm_spec hl hnum hh
   have e := ech_last hE R (Nat.le_refl _) ht
   have heq := hb.eq
   rw [(basB_some hB hh).2, e] at heq
   obtain ⟨e1, e2⟩ : t = N ∧ s.1.take (t * C') = b := by
    have h1 := congrArg Mat.rows heq
    have h2 := congrArg Mat.cells heq
    exact ⟨by simp only at h1; omega, by simpa using h2⟩
   subst e1
   exact ⟨R, s, rfl, hl, hnum, hR, hh, e, ht, hE, e2.symm⟩
theorem bas_rows {m : Mat} {C N : Nat} {b : List Int} (hb : Bas m C N b) (h : basOk m = true) : ∃ R : Nat, m.rows = (R : Int) ∧ m.cells.length = R * C ∧ Rwf N (cell b C) R C (cell m.cells C) ∧ Rwf R (cell m.cells C) N C (cell b C) := by
 obtain ⟨R, s, hr, hl, hnum, -, hh, -, hNR, hE, hbs⟩ := basOk_parts hb h
 obtain ⟨hU, W, hw1, hw2⟩ := herm_fact hl hnum hh
 have hcb : ∀ i k, i < N → k < C → cell b C i k = cell s.1 C i k := fun i k h1 h2 => by rw [hbs]; exact cell_take h1 h2
 refine ⟨R, hr, hl, ⟨cell s.2 R, fun i j hi hj => by rw [hcb i j hi hj]; exact hU i j (by omega) hj⟩, ⟨W, fun i j hi hj => ?_⟩⟩
 have e1 : cell m.cells C i j = mm R W (cell s.1 C) i j := by
  rw [mm_congr2 (B' := mm R (cell s.2 R) (cell m.cells C)) fun k hk => hU k j hk hj, ← mm_assoc, mm_congr1 (A' := oneM) fun k hk => hw2 i k hi hk, oneM_mm hi]
 rw [e1]
 unfold mm
 rw [sm_ext hNR fun k h1 h2 => by rw [hE.zero k h1 h2 j hj, Int.mul_zero]]
 exact sm_congr fun k hk => by rw [hcb k j hk hj]
def Ind (N C : Nat) (M : Mx) : Prop := ∀ a : Nat → Int, (∀ j, j < C → sm N (fun i => a i * M i j) = 0) → ∀ i, i < N → a i = 0
theorem stair_sum {N C : Nat} {b : List Int} {a : Nat → Int} {i : Nat} (hi : i < N) (hst : ∀ i, i < N → ∀ i', i < i' → i' < N → cell b C i' (fz (rowL b C i)) = 0) (h0 : ∀ q, q < i → a q = 0) : sm N (fun q => a q * cell b C q (fz (rowL b C i))) = a i * cell b C i (fz (rowL b C i)) :=
 sm_one hi fun q hq hne => by
  by_cases e : q < i
  ·rw [h0 q e, Int.zero_mul]
  ·rw [hst i hi q (by omega) hq, Int.mul_zero]
theorem bas_ind {m : Mat} {C N : Nat} {b : List Int} (hb : Bas m C N b) (h : basOk m = true) : Ind N C (cell b C) := by
 intro a ha
 have key : ∀ n, n ≤ N → ∀ i, i < n → a i = 0 := by
  intro n
  induction n with
  | zero => intro _ i hi; omega
  | succ n ih =>
   intro hn i hi
   by_cases e : i = n
   ·subst e
    obtain ⟨f1, f2⟩ := fz_row hb.len (show i < N by omega) (hb.full i (by omega))
    have h1 := ha _ f1
    rw [stair_sum (by omega) (bas_stair hb h) fun q hq => ih (by omega) q hq] at h1
    rcases Int.mul_eq_zero.1 h1 with h2 | h2
    ·exact h2
    ·exact (f2 h2).elim
   ·exact ih (by omega) i (by omega)
 exact key N (Nat.le_refl _)
def vecF (v : List Int) : Nat → Int := fun j => v.getD j 0
theorem nrm1_at {b : List Int} {C i : Nat} {v y : List Int} (hl : v.length = C) (h : nrm1 b C i v = some y) : ∀ k, k < C → vecF y k = vecF v k - cell b C i k * nrmQ b C i v := fun k hk => by
 have hy : y = updR (nrmV b C i v (nrmQ b C i v)) 0 C v := by
  unfold nrm1 at h
  split at h
  ·exact (Option.some.inj h).symm
  ·cases h
 unfold vecF
 rw [hy, updR_getD (by omega), if_pos (by omega), Nat.sub_zero]; rfl
theorem nrmN_span {b : List Int} {C N : Nat} : ∀ {n i : Nat} {v x : List Int}, i + n ≤ N → NumL v → v.length = C → nrmN b C n i v = some x → Spn N C (cell b C) fun j => vecF v j - vecF x j
 | 0, i, v, x, _, _, _, h => by
  obtain rfl := Option.some.inj (show some v = some x from h)
  exact Spn.zero fun j _ => by omega
 | n + 1, i, v, x, hN, hv, hl, h => by
  cases h1 : nrm1 b C i v with
  | none => simp only [nrmN, h1] at h; cases h
  | some y =>
   simp only [nrmN, h1, Option.bind_some] at h
   obtain ⟨y1, y2⟩ := nrm1_spec hv h1
   have h3 := nrmN_span (N := N) (by omega) y1 (by omega) h
   refine Spn.comb h3 (Spn.row (i := i) (by omega)) 1 (nrmQ b C i v) fun j hj => ?_
   have := nrm1_at hl h1 j hj
   rw [Int.mul_comm (nrmQ b C i v)]; omega
theorem nrm_zero {r : Mat} {C N : Nat} {b v x : List Int} (hb : Bas r C N b) (h : nrmR r v = some x) (hs : Spn N C (cell b C) (vecF v)) : ∀ j, j < C → vecF x j = 0 := by
 obtain ⟨h1, h2, h3, h4, h5, h6⟩ := nrmR_spec h
 rw [nrmR_yes hb h1] at h
 have hvl : v.length = C := by have := hb.cols; omega
 have hdone := nrm_done hb h5 (by omega) h4 hvl (fun i' hi' => by omega) h
 have hx : Spn N C (cell b C) (vecF x) := Spn.comb hs (nrmN_span (N := N) (by omega) h4 hvl h) 1 (-1) fun j _ => by omega
 obtain ⟨a, ha⟩ := hx
 have key : ∀ n, n ≤ N → ∀ i, i < n → a i = 0 := by
  intro n
  induction n with
  | zero => intro _ i hi; omega
  | succ n ih =>
   intro hn i hi
   by_cases e : i = n
   ·subst e
    obtain ⟨f1, f2⟩ := fz_row hb.len (show i < N by omega) (hb.full i (by omega))
    have h7 := hdone i (by omega)
    have h8 := ha _ f1
    rw [stair_sum (by omega) (bas_stair hb h5) fun q hq => ih (by omega) q hq] at h8
    unfold nrmQ at h7
    unfold vecF at h8
    rw [h8, Int.mul_ediv_cancel _ f2] at h7
    exact h7
   ·exact ih (by omega) i (by omega)
 intro j hj
 rw [ha j hj]
 exact sm_zero fun i hi => by rw [key N (Nat.le_refl _) i hi, Int.zero_mul]
theorem vec_zero {x : List Int} {C : Nat} (hl : x.length = C) (h : ∀ j, j < C → vecF x j = 0) : zeroL x = true := by
 unfold zeroL
 rw [List.all_eq_true]
 intro y hy
 obtain ⟨i, hi, rfl⟩ := List.getElem_of_mem hy
 have := h i (by omega)
 unfold vecF at this
 rw [List.getD_eq_getElem?_getD, List.getElem?_eq_getElem hi] at this
 simpa using this
end Go.Proofs.Ytoiblknchcoecaa

namespace Go.Proofs.Ytoiblknchcoecaa
--BODY
end Go.Proofs.Ytoiblknchcoecaa
