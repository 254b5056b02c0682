/-
  A normal form's normal form is itself: plain.
-/
import Derived.Test.YtoiblknchcoecaaGreatZNorm
import Derived.Test.YtoiblknchcoecaaGreatZEch
import Derived.Test.YtoiblknchcoecaaGreatZStack
set_option maxHeartbeats 8000000
set_option maxRecDepth 100000
namespace Go.Proofs.YtoiblknchcoecaaGreat
def EchP (C R : Nat) (m : List Int) (j t : Nat) : Prop := ∀ i, i < t → ∃ k, k < j ∧ cell m C i k ≠ 0 ∧ (∀ k', k' < k → cell m C i k' = 0) ∧ ∀ i', i < i' → i' < R → cell m C i' k = 0
theorem EchP.keep {C R j t : Nat} {m m' : List Int} (h : EchP C R m j t) (hj : j ≤ C) (h1 : ∀ i k, k < C → i < t → cell m' C i k = cell m C i k) (h2 : ∀ i, t ≤ i → i < R → ∀ k, k < j → cell m' C i k = 0) : EchP C R m' j t := fun i hi => by
 obtain ⟨k, q1, q2, q3, q4⟩ := h i hi
 refine ⟨k, q1, by rw [h1 i k (by omega) hi]; exact q2, fun k' hk' => by rw [h1 i k' (by omega) hi]; exact q3 k' hk', fun i' h3 h4 => ?_⟩
 by_cases e : i' < t
 ·rw [h1 i' k (by omega) e]; exact q4 i' h3 h4
 ·exact h2 i' (by omega) h4 k q1
theorem colE_echP {C R j t p : Nat} (hj : j < C) (ht : t < R) {s s' : HS} (h : Hs C R s) (hv : Piv s.1 C R j p t) (ha : aloneB s.1 C R j p t = true) (hE : Ech C R s.1 j t) (hP : EchP C R s.1 j t) (he : colE C R j t p s = some s') : EchP C R s'.1 (j + 1) (t + 1) := by
 have hspec := (colE_spec hj ht h hv ha hE he).2
 unfold colE at he
 have hal := aloneB_iff.1 ha
 obtain ⟨h1, f1, z1, n1⟩ : Hs C R (top2 C R p t s) ∧ (∀ i k, k < C → i < t → cell (top2 C R p t s).1 C i k = cell s.1 C i k) ∧ (∀ i, t ≤ i → i < R → ∀ k, k < j → cell (top2 C R p t s).1 C i k = 0) ∧ cell (top2 C R p t s).1 C t j ≠ 0 := by
  unfold top2
  by_cases e : p = t
  ·rw [if_pos e]; subst e
   exact ⟨h, fun _ _ _ _ => rfl, hE.zero, hv.ne⟩
  ·rw [if_neg e]
   have hc : ∀ i k, k < C → cell (sw2 C R p t s).1 C i k = if i = p then cell s.1 C t k else if i = t then cell s.1 C p k else cell s.1 C i k := fun i k hk => cell_swR h.la hv.hi ht e hk
   have hlo := hv.lo
   have hhi := hv.hi
   refine ⟨sw2_hs h, fun i k hk hi => by rw [hc i k hk, if_neg (by omega), if_neg (by omega)], fun i h1 h2 k hk => ?_, ?_⟩
   ·rw [hc i k (by omega)]
    split
    ·exact hE.zero t (Nat.le_refl _) ht k hk
    ·split
     ·exact hE.zero p hlo hhi k hk
     ·exact hE.zero i h1 h2 k hk
   ·rw [hc t j hj, if_neg (by omega), if_pos rfl]; exact hv.ne
 obtain ⟨h2, f2, z2, n2⟩ : Hs C R (pos2 C R j t (top2 C R p t s)) ∧ (∀ i k, k < C → i < t → cell (pos2 C R j t (top2 C R p t s)).1 C i k = cell s.1 C i k) ∧ (∀ i, t ≤ i → i < R → ∀ k, k < j → cell (pos2 C R j t (top2 C R p t s)).1 C i k = 0) ∧ cell (pos2 C R j t (top2 C R p t s)).1 C t j ≠ 0 := by
  unfold pos2
  split
  ·have hc : ∀ i k, k < C → cell (neg2 C R t (top2 C R p t s)).1 C i k = if i = t then -cell (top2 C R p t s).1 C t k else cell (top2 C R p t s).1 C i k := fun i k hk => cell_negR h1.la ht hk
   refine ⟨neg2_hs h1, fun i k hk hi => by rw [hc i k hk, if_neg (by omega)]; exact f1 i k hk hi, fun i h3 h4 k hk => ?_, ?_⟩
   ·rw [hc i k (by omega)]
    split
    ·rw [z1 t (Nat.le_refl _) ht k hk]; rfl
    ·exact z1 i h3 h4 k hk
   ·rw [hc t j hj, if_pos rfl]; omega
  ·exact ⟨h1, f1, z1, n1⟩
 obtain ⟨g1, g2, g3⟩ := red_spec hj ht h2 (by omega) he
 intro i hi
 by_cases e : i = t
 ·subst e
  refine ⟨j, by omega, by rw [g2 i j hj (Nat.le_refl _)]; exact n2, fun k' hk' => by rw [g2 i k' (by omega) (Nat.le_refl _)]; exact z2 i (Nat.le_refl _) ht k' hk', fun i' h3 h4 => hspec.zero i' (by omega) h4 j (by omega)⟩
 ·have hun : ∀ k, k < j → cell s'.1 C i k = cell s.1 C i k := fun k hk => by rw [g3 i k (by omega) (z2 t (Nat.le_refl _) ht k hk), f2 i k (by omega) (by omega)]
  obtain ⟨k, q1, q2, q3, q4⟩ := hP i (by omega)
  refine ⟨k, by omega, by rw [hun k q1]; exact q2, fun k' hk' => by rw [hun k' (by omega)]; exact q3 k' hk', fun i' h3 h4 => ?_⟩
  by_cases e2 : i' < t
  ·rw [g3 i' k (by omega) (z2 t (Nat.le_refl _) ht k q1), f2 i' k (by omega) e2]; exact q4 i' h3 h4
  ·rw [g2 i' k (by omega) (by omega)]; exact z2 i' (by omega) h4 k q1
theorem hLoop_echP {C R : Nat} : ∀ {n j t : Nat} {s s' : HS}, Hs C R s → j + n = C → t ≤ R → Ech C R s.1 j t → EchP C R s.1 j t → hLoop C R n j t s = some s' → ∃ t', t' ≤ R ∧ Ech C R s'.1 C t' ∧ EchP C R s'.1 C t'
 | 0, j, t, s, s', h, hj, ht, hE, hP, he => by
  obtain rfl := Option.some.inj he
  obtain rfl : j = C := by omega
  exact ⟨t, ht, hE, hP⟩
 | n + 1, j, t, s, s', h, hj, ht, hE, hP, he => by
  have hup : ∀ {m : List Int} {t : Nat}, EchP C R m j t → EchP C R m (j + 1) t := fun h i hi => by
   obtain ⟨k, q1, q⟩ := h i hi
   exact ⟨k, by omega, q⟩
  simp only [hLoop] at he
  by_cases hlt : t < R
  ·rw [if_pos hlt] at he
   by_cases hl : leastN s.1 C j t (R - t) < 0
   ·rw [if_pos hl] at he
    refine hLoop_echP h (by omega) ht ⟨fun i hi => ?_, fun i h1 h2 k hk => ?_⟩ (hup hP) he
    ·obtain ⟨k, hk, hne⟩ := hE.full i hi
     exact ⟨k, by omega, hne⟩
    ·by_cases e : k = j
     ·subst e
      rcases leastN_spec s.1 C k t (R - t) with ⟨_, h3⟩ | ⟨p, h3, _⟩
      ·have := h3 (i - t) (by omega)
       rwa [show t + (i - t) = i by omega] at this
      ·omega
     ·exact hE.zero i h1 h2 k (by omega)
   ·rw [if_neg hl] at he
    have hv := Piv.of (m := s.1) (C := C) (R := R) (j := j) (t := t) ht (by omega)
    cases hg : gcdA C R j t s (leastN s.1 C j t (R - t)).toNat with
    | none => rw [hg] at he; cases he
    | some r =>
     rw [hg] at he
     obtain ⟨s1, p1⟩ := r
     obtain ⟨g1, g2, g3, g4, g5⟩ := gcdL_spec (by omega) h hv hg
     have hz1 : ∀ i, t ≤ i → i < R → ∀ k, k < j → cell s1.1 C i k = 0 := fun i h1 h2 k hk => g5 k (by omega) (fun i' h3 h4 => hE.zero i' h3 h4 k hk) i h1 h2
     have hE1 : Ech C R s1.1 j t := ⟨fun i hi => by
      obtain ⟨k, hk, hne⟩ := hE.full i hi
      exact ⟨k, hk, by rw [g4 i k (by omega) hi]; exact hne⟩, hz1⟩
     have hP1 : EchP C R s1.1 j t := hP.keep (by omega) (fun i k hk hi => g4 i k hk hi) hz1
     cases hc : colE C R j t p1 s1 with
     | none => simp only [Option.bind_some, hc] at he; cases he
     | some s2 =>
      simp only [Option.bind_some, hc] at he
      obtain ⟨q1, q2⟩ := colE_spec (by omega) hlt g1 g2 g3 hE1 hc
      exact hLoop_echP q1 (by omega) (by omega) q2 (colE_echP (by omega) hlt g1 g2 g3 hE1 hP1 hc) he
  ·rw [if_neg hlt] at he
   obtain rfl := Option.some.inj he
   refine ⟨t, ht, ⟨fun i hi => ?_, fun i h1 h2 => by omega⟩, fun i hi => ?_⟩
   ·obtain ⟨k, hk, hne⟩ := hE.full i hi
    exact ⟨k, by omega, hne⟩
   ·obtain ⟨k, q1, q⟩ := hP i hi
    exact ⟨k, by omega, q⟩
theorem bas_stair {m : Mat} {C N : Nat} {b : List Int} (hb : Bas m C N b) (h : basOk m = true) : ∀ i, i < N → ∀ i', i < i' → i' < N → cell b C i' (fz (rowL b C i)) = 0 := by
 cases hB : isMatB m with
 | false =>
  have := (basB_none (m := m) (by unfold hermR; rw [hB]; rfl)).1
  rw [this] at h; cases h
 | true =>
  obtain ⟨R, C', hmr, hmc, hR, hC, hl, hnum⟩ := isMatB_shape hB
  have hcols := hb.cols
  obtain rfl : C' = C := by omega
  obtain ⟨mr, mc, cells⟩ := m
  simp only at hmr hmc hl hnum
  subst hmr
  subst hmc
  cases hh : herm cells R C' with
  | none =>
   have := (basB_none (m := { rows := (R : Int), cols := (C' : Int), cells := cells }) (by rw [hermR_mat hB]; exact hh)).1
   rw [this] at h; cases h
  | some s =>
   obtain ⟨hs, -⟩ := herm_spec hl hnum hh
   obtain ⟨t, ht, hE, hP⟩ := hLoop_echP (s := (cells, idL R)) ⟨hl, idL_len R, hnum, idL_num R⟩ (by omega) (Nat.zero_le _) ⟨fun i hi => by omega, fun i _ _ k hk => by omega⟩ (fun i hi => by omega) hh
   have e := ech_last hE R (Nat.le_refl _) ht
   have heq := hb.eq
   rw [(basB_some hB hh).2, e] at heq
   obtain ⟨e1, e2⟩ : t = N ∧ s.1.take (t * C') = b := by
    have h1 := congrArg Mat.rows heq
    have h2 := congrArg Mat.cells heq
    exact ⟨by simp only at h1; omega, by simpa using h2⟩
   subst e1
   intro i hi i' hii hi'
   obtain ⟨k, q1, q2, q3, q4⟩ := hP i hi
   have hcb : ∀ i k, i < t → k < C' → cell b C' i k = cell s.1 C' i k := fun i k h1 h2 => by rw [← e2]; exact cell_take h1 h2
   have hbl : b.length = t * C' := hb.len
   have hfz : fz (rowL b C' i) = k := by
    refine fz_eq (x := cell b C' i k) (rowL_at hbl hi q1) (by rw [hcb i k hi q1]; exact q2) (rowL_take hbl hi (fun k' hk' => by rw [hcb i k' hi (by omega)]; exact q3 k' hk') (by omega))
   rw [hfz, hcb i' k hi' q1]
   exact q4 i' hii (by omega)
end Go.Proofs.YtoiblknchcoecaaGreat

namespace Go.Proofs.YtoiblknchcoecaaGreat
structure Pvs (C R : Nat) (m : List Int) (j t : Nat) (p : Nat → Nat) : Prop where
 len : m.length = R * C
 le : t ≤ R
 piv : ∀ l, l < t → p l < j ∧ cell m C l (p l) ≠ 0 ∧ ∀ i, i < R → i ≠ l → cell m C i (p l) = 0
 low : ∀ i, t ≤ i → i < R → ∀ k, k < j → cell m C i k = 0
end Go.Proofs.YtoiblknchcoecaaGreat
