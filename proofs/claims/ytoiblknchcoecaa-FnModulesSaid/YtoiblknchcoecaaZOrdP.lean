/-
  A normal form's normal form is itself: plain.
-/
import Derived.Test.YtoiblknchcoecaaZNorm
import Derived.Test.YtoiblknchcoecaaZEch
import Derived.Test.YtoiblknchcoecaaZStack
set_option maxHeartbeats 8000000
set_option maxRecDepth 100000
namespace Go.Proofs.Ytoiblknchcoecaa
def EchP (C R : Nat) (m : List Int) (j t : Nat) : Prop := ∀ i, i < t → ∃ k, k < j ∧ cell m C i k ≠ 0 ∧ (∀ k', k' < k → cell m C i k' = 0) ∧ ∀ i', i < i' → i' < R → cell m C i' k = 0
theorem EchP.keep {C R j t : Nat} {m m' : List Int} (h : EchP C R m j t) (hj : j ≤ C) (h1 : ∀ i k, k < C → i < t → cell m' C i k = cell m C i k) (h2 : ∀ i, t ≤ i → i < R → ∀ k, k < j → cell m' C i k = 0) : EchP C R m' j t := fun i hi => by
 obtain ⟨k, q1, q2, q3, q4⟩ := h i hi
 refine ⟨k, q1, by rw [h1 i k (by omega) hi]; exact q2, fun k' hk' => by rw [h1 i k' (by omega) hi]; exact q3 k' hk', fun i' h3 h4 => ?_⟩
 by_cases e : i' < t
 ·rw [h1 i' k (by omega) e]; exact q4 i' h3 h4
 ·exact h2 i' (by omega) h4 k q1
theorem colE_echP {C R j t p : Nat} (hj : j < C) (ht : t < R) {s s' : HS} (h : Hs C R s) (hv : Piv s.1 C R j p t) (ha : aloneB s.1 C R j p t = true) (hE : Ech C R s.1 j t) (hP : EchP C R s.1 j t) (he : colE C R j t p s = some s') : EchP C R s'.1 (j + 1) (t + 1) := by
 have hspec := (colE_spec hj ht h hv ha hE he).2
 unfold colE at he
 have hal := aloneB_iff.1 ha
 obtain ⟨h1, f1, z1, n1⟩ : Hs C R (top2 C R p t s) ∧ (∀ i k, k < C → i < t → cell (top2 C R p t s).1 C i k = cell s.1 C i k) ∧ (∀ i, t ≤ i → i < R → ∀ k, k < j → cell (top2 C R p t s).1 C i k = 0) ∧ cell (top2 C R p t s).1 C t j ≠ 0 := by
  unfold top2
  by_cases e : p = t
  ·rw [if_pos e]; subst e
   exact ⟨h, fun _ _ _ _ => rfl, hE.zero, hv.ne⟩
  ·rw [if_neg e]
   have hc : ∀ i k, k < C → cell (sw2 C R p t s).1 C i k = if i = p then cell s.1 C t k else if i = t then cell s.1 C p k else cell s.1 C i k := fun i k hk => cell_swR h.la hv.hi ht e hk
   have hlo := hv.lo
   have hhi := hv.hi
   refine ⟨sw2_hs h, fun i k hk hi => by rw [hc i k hk, if_neg (by omega), if_neg (by omega)], fun i h1 h2 k hk => ?_, ?_⟩
   ·rw [hc i k (by omega)]
    split
    ·exact hE.zero t (Nat.le_refl _) ht k hk
    ·split
     ·exact hE.zero p hlo hhi k hk
     ·exact hE.zero i h1 h2 k hk
   ·rw [hc t j hj, if_neg (by omega), if_pos rfl]; exact hv.ne
 obtain ⟨h2, f2, z2, n2⟩ : Hs C R (pos2 C R j t (top2 C R p t s)) ∧ (∀ i k, k < C → i < t → cell (pos2 C R j t (top2 C R p t s)).1 C i k = cell s.1 C i k) ∧ (∀ i, t ≤ i → i < R → ∀ k, k < j → cell (pos2 C R j t (top2 C R p t s)).1 C i k = 0) ∧ cell (pos2 C R j t (top2 C R p t s)).1 C t j ≠ 0 := by
  unfold pos2
  split
  ·have hc : ∀ i k, k < C → cell (neg2 C R t (top2 C R p t s)).1 C i k = if i = t then -cell (top2 C R p t s).1 C t k else cell (top2 C R p t s).1 C i k := fun i k hk => cell_negR h1.la ht hk
   refine ⟨neg2_hs h1, fun i k hk hi => by rw [hc i k hk, if_neg (by omega)]; exact f1 i k hk hi, fun i h3 h4 k hk => ?_, ?_⟩
   ·rw [hc i k (by omega)]
    split
    ·rw [z1 t (Nat.le_refl _) ht k hk]; rfl
    ·exact z1 i h3 h4 k hk
   ·rw [hc t j hj, if_pos rfl]; omega
  ·exact ⟨h1, f1, z1, n1⟩
 obtain ⟨g1, g2, g3⟩ := red_spec hj ht h2 (by omega) he
 intro i hi
 by_cases e : i = t
 ·subst e
  refine ⟨j, by omega, by rw [g2 i j hj (Nat.le_refl _)]; exact n2, fun k' hk' => by rw [g2 i k' (by omega) (Nat.le_refl _)]; exact z2 i (Nat.le_refl _) ht k' hk', fun i' h3 h4 => hspec.zero i' (by omega) h4 j (by omega)⟩
 ·have hun : ∀ k, k < j → cell s'.1 C i k = cell s.1 C i k := fun k hk => by rw [g3 i k (by omega) (z2 t (Nat.le_refl _) ht k hk), f2 i k (by omega) (by omega)]
  obtain ⟨k, q1, q2, q3, q4⟩ := hP i (by omega)
  refine ⟨k, by omega, by rw [hun k q1]; exact q2, fun k' hk' => by rw [hun k' (by omega)]; exact q3 k' hk', fun i' h3 h4 => ?_⟩
  by_cases e2 : i' < t
  ·rw [g3 i' k (by omega) (z2 t (Nat.le_refl _) ht k q1), f2 i' k (by omega) e2]; exact q4 i' h3 h4
  ·rw [g2 i' k (by omega) (by omega)]; exact z2 i' (by omega) h4 k q1
theorem hLoop_echP {C R : Nat} : ∀ {n j t : Nat} {s s' : HS}, Hs C R s → j + n = C → t ≤ R → Ech C R s.1 j t → EchP C R s.1 j t → hLoop C R n j t s = some s' → ∃ t', t' ≤ R ∧ Ech C R s'.1 C t' ∧ EchP C R s'.1 C t'
 | 0, j, t, s, s', h, hj, ht, hE, hP, he => by
  obtain rfl := Option.some.inj he
  obtain rfl : j = C := by omega
  exact ⟨t, ht, hE, hP⟩
 | n + 1, j, t, s, s', h, hj, ht, hE, hP, he => by
  have hup : ∀ {m : List Int} {t : Nat}, EchP C R m j t → EchP C R m (j + 1) t := fun h i hi => by
   obtain ⟨k, q1, q⟩ := h i hi
   exact ⟨k, by omega, q⟩
  simp only [hLoop] at he
  by_cases hlt : t < R
  ·rw [if_pos hlt] at he
   by_cases hl : leastN s.1 C j t (R - t) < 0
   ·rw [if_pos hl] at he
    refine hLoop_echP h (by omega) ht ⟨fun i hi => ?_, fun i h1 h2 k hk => ?_⟩ (hup hP) he
    ·obtain ⟨k, hk, hne⟩ := hE.full i hi
     exact ⟨k, by omega, hne⟩
    ·by_cases e : k = j
     ·subst e
      rcases leastN_spec s.1 C k t (R - t) with ⟨_, h3⟩ | ⟨p, h3, _⟩
      ·have := h3 (i - t) (by omega)
       rwa [show t + (i - t) = i by omega] at this
      ·omega
     ·exact hE.zero i h1 h2 k (by omega)
   ·rw [if_neg hl] at he
    have hv := Piv.of (m := s.1) (C := C) (R := R) (j := j) (t := t) ht (by omega)
    cases hg : gcdA C R j t s (leastN s.1 C j t (R - t)).toNat with
    | none => rw [hg] at he; cases he
    | some r =>
     rw [hg] at he
     obtain ⟨s1, p1⟩ := r
     obtain ⟨g1, g2, g3, g4, g5⟩ := gcdL_spec (by omega) h hv hg
     have hz1 : ∀ i, t ≤ i → i < R → ∀ k, k < j → cell s1.1 C i k = 0 := fun i h1 h2 k hk => g5 k (by omega) (fun i' h3 h4 => hE.zero i' h3 h4 k hk) i h1 h2
     have hE1 : Ech C R s1.1 j t := ⟨fun i hi => by
      obtain ⟨k, hk, hne⟩ := hE.full i hi
      exact ⟨k, hk, by rw [g4 i k (by omega) hi]; exact hne⟩, hz1⟩
     have hP1 : EchP C R s1.1 j t := hP.keep (by omega) (fun i k hk hi => g4 i k hk hi) hz1
     cases hc : colE C R j t p1 s1 with
     | none => simp only [Option.bind_some, hc] at he; cases he
     | some s2 =>
      simp only [Option.bind_some, hc] at he
      obtain ⟨q1, q2⟩ := colE_spec (by omega) hlt g1 g2 g3 hE1 hc
      exact hLoop_echP q1 (by omega) (by omega) q2 (colE_echP (by omega) hlt g1 g2 g3 hE1 hP1 hc) he
  ·rw [if_neg hlt] at he
   obtain rfl := Option.some.inj he
   refine ⟨t, ht, ⟨fun i hi => ?_, fun i h1 h2 => by omega⟩, fun i hi => ?_⟩
   ·obtain ⟨k, hk, hne⟩ := hE.full i hi
    exact ⟨k, by omega, hne⟩
   ·obtain ⟨k, q1, q⟩ := hP i hi
    exact ⟨k, by omega, q⟩
theorem bas_stair {m : Mat} {C N : Nat} {b : List Int} (hb : Bas m C N b) (h : basOk m = true) : ∀ i, i < N → ∀ i', i < i' → i' < N → cell b C i' (fz (rowL b C i)) = 0 := by
 cases hB : isMatB m with
 | false =>
  have := (basB_none (m := m) (by unfold hermR; rw [hB]; rfl)).1
  rw [this] at h; cases h
 | true =>
  obtain ⟨R, C', hmr, hmc, hR, hC, hl, hnum⟩ := isMatB_shape hB
  have hcols := hb.cols
  obtain rfl : C' = C := by omega
  obtain ⟨mr, mc, cells⟩ := m
  simp only at hmr hmc hl hnum
  subst hmr
  subst hmc
  cases hh : herm cells R C' with
  | none =>
   have := (basB_none (m := { rows := (R : Int), cols := (C' : Int), cells := cells }) (by rw [hermR_mat hB]; exact hh)).1
   rw [this] at h; cases h
  | some s =>
   obtain ⟨hs, -⟩ := herm_spec hl hnum hh
   obtain ⟨t, ht, hE, hP⟩ := hLoop_echP (s := (cells, idL R)) ⟨hl, idL_len R, hnum, idL_num R⟩ (by omega) (Nat.zero_le _) ⟨fun i hi => by omega, fun i _ _ k hk => by omega⟩ (fun i hi => by omega) hh
   have e := ech_last hE R (Nat.le_refl _) ht
   have heq := hb.eq
   rw [(basB_some hB hh).2, e] at heq
   obtain ⟨e1, e2⟩ : t = N ∧ s.1.take (t * C') = b := by
    have h1 := congrArg Mat.rows heq
    have h2 := congrArg Mat.cells heq
    exact ⟨by simp only at h1; omega, by simpa using h2⟩
   subst e1
   intro i hi i' hii hi'
   obtain ⟨k, q1, q2, q3, q4⟩ := hP i hi
   have hcb : ∀ i k, i < t → k < C' → cell b C' i k = cell s.1 C' i k := fun i k h1 h2 => by rw [← e2]; exact cell_take h1 h2
   have hbl : b.length = t * C' := hb.len
   have hfz : fz (rowL b C' i) = k := by
    refine fz_eq (x := cell b C' i k) (rowL_at hbl hi q1) (by rw [hcb i k hi q1]; exact q2) (rowL_take hbl hi (fun k' hk' => by rw [hcb i k' hi (by omega)]; exact q3 k' hk') (by omega))
   rw [hfz, hcb i' k hi' q1]
   exact q4 i' hii (by omega)
theorem ediv_emod0 (x d : Int) (hd : d ≠ 0) : (x - d * (x / d)) / d = 0 := by
 have h1 : x - d * (x / d) = x % d := by have := Int.emod_add_mul_ediv x d; omega
 rw [h1]
 have h2 := Int.emod_nonneg x hd
 have h3 : x % d < (d.natAbs : Int) := Int.emod_lt x hd
 by_cases h0 : 0 < d
 ·exact Int.ediv_eq_zero_of_lt h2 (by omega)
 ·have h4 : (x % d) / (-d) = 0 := Int.ediv_eq_zero_of_lt h2 (by omega)
  rw [Int.ediv_neg] at h4
  omega
theorem nrm_fix {b : List Int} {C N : Nat} : ∀ {n i : Nat} {x : List Int}, i + n = N → NumL x → x.length = C → (∀ i', i ≤ i' → i' < N → nrmQ b C i' x = 0) → nrmN b C n i x = some x
 | 0, _, _, _, _, _, _ => rfl
 | n + 1, i, x, hN, hx, hl, hq => by
  have h0 := hq i (Nat.le_refl _) (by omega)
  have hV : ∀ k, nrmV b C i x 0 k = x.getD k 0 := fun k => by unfold nrmV; omega
  have hu : updR (nrmV b C i x 0) 0 C x = x := by
   apply List.ext_getElem
   ·rw [updR_len]
   ·intro k h1 h2
    have := updR_getD (f := nrmV b C i x 0) (o := 0) (k := C) (m := x) (by omega) k
    rw [if_pos (by omega), hV, Nat.sub_zero] at this
    simp only [List.getD_eq_getElem?_getD, List.getElem?_eq_getElem h1, List.getElem?_eq_getElem h2, Option.getD_some] at this
    exact this
  have h1 : nrm1 b C i x = some x := by
   have hok : nrmOk b C i x (nrmQ b C i x) = true := by
    rw [h0]
    refine nrmOk_iff.2 fun k hk => ⟨?_, ?_⟩
    ·rw [Int.mul_zero]; decide
    ·rw [hV]; exact isNumB_iff.2 (hx.getD k)
   rw [nrm1_yes hok, h0, hu]
  simp only [nrmN, h1, Option.bind_some]
  exact nrm_fix (by omega) hx hl fun i' h1 h2 => hq i' (by omega) h2
theorem nrm_done {r : Mat} {b : List Int} {C N : Nat} (hb : Bas r C N b) (hok : basOk r = true) : ∀ {n i : Nat} {v x : List Int}, i + n = N → NumL v → v.length = C → (∀ i', i' < i → nrmQ b C i' v = 0) → nrmN b C n i v = some x → ∀ i', i' < N → nrmQ b C i' x = 0
 | 0, i, v, x, hN, _, _, hq, h => by
  obtain rfl := Option.some.inj (show some v = some x from h)
  exact fun i' hi' => hq i' (by omega)
 | n + 1, i, v, x, hN, hv, hl, hq, h => by
  cases h1 : nrm1 b C i v with
  | none => simp only [nrmN, h1] at h; cases h
  | some y =>
   simp only [nrmN, h1, Option.bind_some] at h
   obtain ⟨y1, y2⟩ := nrm1_spec hv h1
   have hy : y = updR (nrmV b C i v (nrmQ b C i v)) 0 C v := by
    unfold nrm1 at h1
    split at h1
    ·exact (Option.some.inj h1).symm
    ·cases h1
   have hyk : ∀ k, k < C → y.getD k 0 = v.getD k 0 - cell b C i k * nrmQ b C i v := fun k hk => by
    rw [hy, updR_getD (by omega), if_pos (by omega), Nat.sub_zero]; rfl
   refine nrm_done hb hok (by omega) y1 (by omega) (fun i' hi' => ?_) h
   obtain ⟨f1, f2⟩ := fz_row hb.len (show i' < N by omega) (hb.full i' (by omega))
   unfold nrmQ
   rw [hyk _ f1]
   by_cases e : i' = i
   ·subst e
    exact ediv_emod0 _ _ f2
   ·rw [bas_stair hb hok i' (by omega) i (by omega) (by omega), Int.zero_mul, Int.sub_zero]
    exact hq i' (by omega)
theorem nrm_idem {r : Mat} {v x : List Int} (h : nrmR r v = some x) : nrmR r x = some x := by
 obtain ⟨h1, h2, h3, h4, h5, h6⟩ := nrmR_spec h
 obtain ⟨C, N, b, hb⟩ := bas_of h5
 rw [nrmR_yes hb h1] at h
 have hvl : v.length = C := by have := hb.cols; omega
 rw [nrmR_yes hb (nrmIn_yes h5 (by rw [h3]; exact h6) (L_numsB h2))]
 exact nrm_fix (by omega) h2 (by omega) fun i' _ hi' => nrm_done hb h5 (by omega) h4 hvl (fun i' hi' => by omega) h i' hi'
end Go.Proofs.Ytoiblknchcoecaa

namespace Go.Proofs.Ytoiblknchcoecaa
def rdot (m : List Int) (C i : Nat) (x : Nat → Int) : Nat → Int
 | 0 => 0
 | n + 1 => rdot m C i x n + cell m C i n * x n
def kerL (m : List Int) (C R : Nat) (x : Nat → Int) : Prop := ∀ i, i < R → rdot m C i x C = 0
theorem rdot_congr {m m' : List Int} {C i i' : Nat} {x : Nat → Int} : ∀ {n : Nat}, (∀ k, k < n → cell m C i k = cell m' C i' k) → rdot m C i x n = rdot m' C i' x n
 | 0, _ => rfl
 | n + 1, h => by
  simp only [rdot]
  rw [rdot_congr (fun k hk => h k (by omega)), h n (by omega)]
theorem rdot_scale {m m' : List Int} {C i i' : Nat} {d : Int} {x : Nat → Int} : ∀ {n : Nat}, (∀ k, k < n → cell m C i k = d * cell m' C i' k) → rdot m C i x n = d * rdot m' C i' x n
 | 0, _ => by simp [rdot]
 | n + 1, h => by
  simp only [rdot]
  rw [rdot_scale (fun k hk => h k (by omega)), h n (by omega), Int.mul_add, Int.mul_assoc]
theorem rdot_lin {m m' : List Int} {C i i' t : Nat} {a b : Int} {x : Nat → Int} : ∀ {n : Nat}, (∀ k, k < n → cell m' C i' k = a * cell m C i k - b * cell m C t k) → rdot m' C i' x n = a * rdot m C i x n - b * rdot m C t x n
 | 0, _ => by simp [rdot]
 | n + 1, h => by
  simp only [rdot]
  rw [rdot_lin (fun k hk => h k (by omega)), h n (by omega), Int.mul_add, Int.mul_add, Int.sub_mul, Int.mul_assoc, Int.mul_assoc]
  omega
theorem rdot_comb {m : List Int} {C i : Nat} {e d : Int} {x y : Nat → Int} : ∀ n : Nat, rdot m C i (fun k => e * x k - d * y k) n = e * rdot m C i x n - d * rdot m C i y n
 | 0 => by simp [rdot]
 | n + 1 => by
  simp only [rdot]
  rw [rdot_comb n, Int.mul_add, Int.mul_add, Int.mul_sub, Int.mul_left_comm, Int.mul_left_comm (cell m C i n) d]
  omega
theorem rdot_zero {m : List Int} {C i : Nat} {x : Nat → Int} : ∀ {n : Nat}, (∀ k, k < n → cell m C i k * x k = 0) → rdot m C i x n = 0
 | 0, _ => rfl
 | n + 1, h => by
  simp only [rdot]
  rw [rdot_zero (fun k hk => h k (by omega)), h n (by omega)]; rfl
theorem rdot_one {m : List Int} {C i c : Nat} {x : Nat → Int} : ∀ {n : Nat}, c < n → (∀ k, k < n → k ≠ c → cell m C i k * x k = 0) → rdot m C i x n = cell m C i c * x c
 | 0, hc, _ => by omega
 | n + 1, hc, h => by
  simp only [rdot]
  by_cases e : c = n
  ·subst e
   rw [rdot_zero (fun k hk => h k (by omega) (by omega))]; omega
  ·rw [rdot_one (by omega) (fun k hk hne => h k (by omega) hne), h n (by omega) (by omega)]; omega
theorem siegel (m : List Int) (C : Nat) : ∀ (n : Nat) (K : List Nat), K.Nodup → n < K.length → ∃ x : Nat → Int, (∀ k, k ∉ K → x k = 0) ∧ (∃ k, x k ≠ 0) ∧ ∀ i, i < n → rdot m C i x C = 0
 | 0, K, _, hl => by
  obtain ⟨k0, hk0⟩ := List.exists_mem_of_length_pos hl
  refine ⟨fun k => if k = k0 then 1 else 0, fun k hk => ?_, ⟨k0, by simp⟩, fun i hi => by omega⟩
  simp only
  rw [if_neg]
  rintro rfl
  exact hk hk0
 | n + 1, K, hn, hl => by
  obtain ⟨x, hx1, ⟨k1, hk1⟩, hx3⟩ := siegel m C n K hn (by omega)
  by_cases hd : rdot m C n x C = 0
  ·refine ⟨x, hx1, ⟨k1, hk1⟩, fun i hi => ?_⟩
   by_cases e : i = n
   ·subst e; exact hd
   ·exact hx3 i (by omega)
  ·have hk1K : k1 ∈ K := Decidable.byContradiction fun h => hk1 (hx1 k1 h)
   have hle : (K.erase k1).length = K.length - 1 := List.length_erase_of_mem hk1K
   obtain ⟨y, hy1, ⟨k2, hk2⟩, hy3⟩ := siegel m C n (K.erase k1) (hn.erase k1) (by omega)
   have hyk1 : y k1 = 0 := hy1 k1 hn.not_mem_erase
   have hyK : ∀ k, k ∉ K → y k = 0 := fun k hk => hy1 k fun h => hk (List.mem_of_mem_erase h)
   by_cases he : rdot m C n y C = 0
   ·refine ⟨y, hyK, ⟨k2, hk2⟩, fun i hi => ?_⟩
    by_cases e : i = n
    ·subst e; exact he
    ·exact hy3 i (by omega)
   ·refine ⟨fun k => rdot m C n y C * x k - rdot m C n x C * y k, fun k hk => ?_, ⟨k1, ?_⟩, fun i hi => ?_⟩
    ·simp only
     rw [hx1 k hk, hyK k hk]; omega
    ·simp only
     rw [hyk1, Int.mul_zero, Int.sub_zero]
     intro h0
     rcases Int.mul_eq_zero.1 h0 with h0 | h0
     ·exact he h0
     ·exact hk1 h0
    ·rw [rdot_comb]
     by_cases e : i = n
     ·subst e; rw [Int.mul_comm]; omega
     ·rw [hx3 i (by omega), hy3 i (by omega)]; omega
theorem rowG_dvd {m : List Int} {C i : Nat} : ∀ {n k : Nat}, k < n → ((rowG m C i n : Nat) : Int) ∣ cell m C i k
 | 0, _, h => by omega
 | n + 1, k, h => by
  simp only [rowG]
  by_cases e : k = n
  ·subst e
   exact Int.ofNat_dvd_left.2 (Nat.gcd_dvd_right _ _)
  ·exact Int.dvd_trans (Int.natCast_dvd_natCast.2 (Nat.gcd_dvd_left _ _)) (rowG_dvd (by omega))
theorem primD_dvd {m : List Int} {C i k : Nat} (hk : k < C) : primD m C i ∣ cell m C i k := by
 unfold primD
 split
 ·exact rowG_dvd hk
 ·exact Int.neg_dvd.2 (rowG_dvd hk)
theorem primD_ne {m : List Int} {C i : Nat} (h : rowG m C i C ≠ 0) : primD m C i ≠ 0 := by
 unfold primD
 split <;> omega
theorem primV_mul {m : List Int} {C i k : Nat} (hk : k < C) : cell m C i k = primD m C i * primV m C i k := by
 unfold primV
 rw [Int.mul_tdiv_cancel' (primD_dvd hk)]
theorem primR_mul {m : List Int} {C R i : Nat} (hl : m.length = R * C) (hi : i < R) : ∃ d : Int, d ≠ 0 ∧ (∀ k, k < C → cell m C i k = d * cell (primR m C i) C i k) ∧ ∀ i' k, k < C → i' ≠ i → cell (primR m C i) C i' k = cell m C i' k := by
 unfold primR
 by_cases h0 : rowG m C i C = 0
 ·rw [if_pos h0]
  exact ⟨1, by decide, fun k _ => by omega, fun _ _ _ _ => rfl⟩
 ·rw [if_neg h0]
  refine ⟨primD m C i, primD_ne h0, fun k hk => ?_, fun i' k hk hne => ?_⟩
  ·rw [cell_upd hl hi hk, if_pos rfl]; exact primV_mul hk
  ·rw [cell_upd hl hi hk, if_neg hne]
theorem ker_scale {m m' : List Int} {C R i : Nat} {d : Int} (hd : d ≠ 0) (h1 : ∀ k, k < C → cell m C i k = d * cell m' C i k) (h2 : ∀ i' k, k < C → i' ≠ i → cell m' C i' k = cell m C i' k) (x : Nat → Int) : kerL m C R x ↔ kerL m' C R x := by
 constructor
 ·intro h i' hi'
  by_cases e : i' = i
  ·subst e
   have h3 := h i' hi'
   rw [rdot_scale h1] at h3
   rcases Int.mul_eq_zero.1 h3 with h3 | h3
   ·exact (hd h3).elim
   ·exact h3
  ·rw [rdot_congr (fun k hk => h2 i' k hk e)]; exact h i' hi'
 ·intro h i' hi'
  by_cases e : i' = i
  ·subst e
   rw [rdot_scale h1, h i' hi', Int.mul_zero]
  ·rw [rdot_congr (fun k hk => (h2 i' k hk e).symm)]; exact h i' hi'
theorem ker_primAll {m : List Int} {C R : Nat} (hl : m.length = R * C) (x : Nat → Int) : ∀ {n : Nat}, n ≤ R → (kerL m C R x ↔ kerL (primAll m C n) C R x)
 | 0, _ => Iff.rfl
 | n + 1, h => by
  simp only [primAll]
  obtain ⟨d, hd, h1, h2⟩ := primR_mul (m := primAll m C n) (C := C) (R := R) (i := n) (by rw [primAll_len]; exact hl) h
  exact (ker_primAll hl x (by omega)).trans (ker_scale hd h1 h2 x)
theorem elRow_spec {m : List Int} {C R i t j : Nat} (hl : m.length = R * C) (hi : i < R) (ht : t < R) (hne : i ≠ t) (hj : j < C) (hc : cell m C t j ≠ 0) :
  (∀ x, kerL m C R x ↔ kerL (elRow m C i t j) C R x) ∧ cell (elRow m C i t j) C i j = 0 ∧ (∀ i' k, k < C → i' ≠ i → cell (elRow m C i t j) C i' k = cell m C i' k) ∧ ∀ k, k < C → cell m C t k = 0 → (cell (elRow m C i t j) C i k = 0 ↔ cell m C i k = 0) := by
 have hg : elG m C i t j ≠ 0 := by
  unfold elG gI Int.gcd
  have := Nat.gcd_pos_of_pos_right (cell m C i j).natAbs (show 0 < (cell m C t j).natAbs by omega)
  omega
 have hgt : elG m C i t j ∣ cell m C t j := by unfold elG gI; exact Int.gcd_dvd_right _ _
 have hgi : elG m C i t j ∣ cell m C i j := by unfold elG gI; exact Int.gcd_dvd_left _ _
 obtain ⟨ct, hct⟩ : ∃ ct, ct = (cell m C t j).tdiv (elG m C i t j) := ⟨_, rfl⟩
 obtain ⟨ci, hci⟩ : ∃ ci, ci = (cell m C i j).tdiv (elG m C i t j) := ⟨_, rfl⟩
 have ect : elG m C i t j * ct = cell m C t j := by rw [hct]; exact Int.mul_tdiv_cancel' hgt
 have eci : elG m C i t j * ci = cell m C i j := by rw [hci]; exact Int.mul_tdiv_cancel' hgi
 have hct0 : ct ≠ 0 := fun e => by rw [e, Int.mul_zero] at ect; exact hc ect.symm
 obtain ⟨m1, hm1⟩ : ∃ m1, m1 = updR (elW m C i t j) (i * C) C m := ⟨_, rfl⟩
 have hl1 : m1.length = R * C := by rw [hm1, updR_len]; exact hl
 have c1 : ∀ i' k, k < C → cell m1 C i' k = if i' = i then ct * cell m C i k - ci * cell m C t k else cell m C i' k := fun i' k hk => by
  rw [hm1, cell_upd hl hi hk]
  split
  ·unfold elW; rw [← hct, ← hci]
  ·rfl
 obtain ⟨d, hd, h1, h2⟩ := primR_mul (m := m1) (C := C) (R := R) (i := i) hl1 hi
 have hE : elRow m C i t j = primR m1 C i := by unfold elRow; rw [← hm1]
 rw [hE]
 have k1 : ∀ x, kerL m C R x ↔ kerL m1 C R x := fun x => by
  constructor
  ·intro h i' hi'
   by_cases e : i' = i
   ·subst e
    rw [rdot_lin (a := ct) (b := ci) (i := i') (t := t) (m := m) (fun k hk => by rw [c1 i' k hk, if_pos rfl]), h i' hi', h t ht]; omega
   ·rw [rdot_congr (m' := m) (i' := i') (fun k hk => by rw [c1 i' k hk, if_neg e])]; exact h i' hi'
  ·intro h i' hi'
   have hrt : rdot m C t x C = 0 := by
    have := h t ht
    rw [rdot_congr (m' := m) (i' := t) (fun k hk => by rw [c1 t k hk, if_neg (by omega)])] at this
    exact this
   by_cases e : i' = i
   ·subst e
    have h3 := h i' hi'
    rw [rdot_lin (a := ct) (b := ci) (i := i') (t := t) (m := m) (fun k hk => by rw [c1 i' k hk, if_pos rfl]), hrt, Int.mul_zero, Int.sub_zero] at h3
    rcases Int.mul_eq_zero.1 h3 with h3 | h3
    ·exact (hct0 h3).elim
    ·exact h3
   ·have h3 := h i' hi'
    rw [rdot_congr (m' := m) (i' := i') (fun k hk => by rw [c1 i' k hk, if_neg e])] at h3
    exact h3
 have hz : ∀ k, k < C → (cell (primR m1 C i) C i k = 0 ↔ cell m1 C i k = 0) := fun k hk => by
  rw [h1 k hk]
  constructor
  ·intro e; rw [e, Int.mul_zero]
  ·intro e
   rcases Int.mul_eq_zero.1 e with e | e
   ·exact (hd e).elim
   ·exact e
 refine ⟨fun x => (k1 x).trans (ker_scale hd h1 h2 x), ?_, fun i' k hk hne' => ?_, fun k hk h0 => ?_⟩
 ·rw [hz j hj, c1 i j hj, if_pos rfl, ← ect, ← eci, Int.mul_left_comm, Int.mul_left_comm ci, Int.mul_comm ci ct]; omega
 ·rw [h2 i' k hk hne', c1 i' k hk, if_neg hne']
 ·rw [hz k hk, c1 i k hk, if_pos rfl, h0, Int.mul_zero, Int.sub_zero]
  constructor
  ·intro e
   rcases Int.mul_eq_zero.1 e with e | e
   ·exact (hct0 e).elim
   ·exact e
  ·intro e; rw [e, Int.mul_zero]
theorem elim_spec {C R j t : Nat} (ht : t < R) (hj : j < C) : ∀ {n : Nat} {m m' : List Int}, n ≤ R → m.length = R * C → cell m C t j ≠ 0 → ecElim C j t n m = some m' →
  m'.length = R * C ∧ (∀ x, kerL m C R x ↔ kerL m' C R x) ∧ (∀ k, k < C → cell m' C t k = cell m C t k) ∧ (∀ i, i < n → i ≠ t → cell m' C i j = 0) ∧ (∀ i k, k < C → cell m C t k = 0 → (cell m' C i k = 0 ↔ cell m C i k = 0))
 | 0, m, m', _, hl, hc, h => by
  obtain rfl := Option.some.inj (show some m = some m' from h)
  exact ⟨hl, fun _ => Iff.rfl, fun _ _ => rfl, fun i hi => by omega, fun _ _ _ _ => Iff.rfl⟩
 | n + 1, m, m', hn, hl, hc, h => by
  simp only [ecElim] at h
  cases he : ecElim C j t n m with
  | none => rw [he] at h; cases h
  | some m1 =>
   rw [he] at h
   obtain ⟨a1, a2, a3, a4, a5⟩ := elim_spec ht hj (by omega) hl hc he
   simp only at h
   by_cases h1 : n = t ∨ cell m1 C n j = 0
   ·rw [if_pos h1] at h
    obtain rfl := Option.some.inj h
    refine ⟨a1, a2, a3, fun i hi hne => ?_, a5⟩
    by_cases e : i = n
    ·subst e
     rcases h1 with h1 | h1
     ·exact (hne h1).elim
     ·exact h1
    ·exact a4 i (by omega) hne
   ·rw [if_neg h1] at h
    by_cases h2 : elWok m1 C n t j = true
    ·rw [if_pos h2] at h
     obtain rfl := Option.some.inj h
     have hnt : n ≠ t := fun e => h1 (.inl e)
     obtain ⟨b1, b2, b3, b4⟩ := elRow_spec a1 (by omega) ht hnt hj (by rw [a3 j hj]; exact hc)
     refine ⟨by rw [elRow_len]; exact a1, fun x => (a2 x).trans (b1 x), fun k hk => by rw [b3 t k hk (Ne.symm hnt), a3 k hk], fun i hi hne => ?_, fun i k hk h0 => ?_⟩
     ·by_cases e : i = n
      ·subst e; exact b2
      ·rw [b3 i j hj e]; exact a4 i (by omega) hne
     ·by_cases e : i = n
      ·subst e
       rw [b4 k hk (by rw [a3 k hk]; exact h0)]; exact a5 i k hk h0
      ·rw [b3 i k hk e]; exact a5 i k hk h0
    ·rw [if_neg h2] at h; cases h
theorem elK_spec {m : List Int} {C j : Nat} : ∀ {n k : Nat}, (elK m C j n k = k + n ∧ ∀ i, k ≤ i → i < k + n → cell m C i j = 0) ∨ (k ≤ elK m C j n k ∧ elK m C j n k < k + n ∧ cell m C (elK m C j n k) j ≠ 0)
 | 0, k => .inl ⟨rfl, fun i h1 h2 => by omega⟩
 | n + 1, k => by
  simp only [elK]
  by_cases h : cell m C k j = 0
  ·rw [if_pos h]
   rcases elK_spec (m := m) (C := C) (j := j) (n := n) (k := k + 1) with ⟨h1, h2⟩ | ⟨h1, h2, h3⟩
   ·refine .inl ⟨by omega, fun i h3 h4 => ?_⟩
    by_cases e : i = k
    ·subst e; exact h
    ·exact h2 i (by omega) (by omega)
   ·exact .inr ⟨by omega, by omega, h3⟩
  ·rw [if_neg h]
   exact .inr ⟨Nat.le_refl _, by omega, h⟩
theorem elM1_spec {m : List Int} {C R t k : Nat} (hl : m.length = R * C) (ht : t < R) (hk : k < R) : (elM1 m C t k).length = R * C ∧ (∀ x, kerL m C R x ↔ kerL (elM1 m C t k) C R x) ∧ ∀ i c, c < C → cell (elM1 m C t k) C i c = if i = k then cell m C t c else if i = t then cell m C k c else cell m C i c := by
 unfold elM1
 by_cases e : k = t
 ·rw [if_pos e]; subst e
  refine ⟨hl, fun _ => Iff.rfl, fun i c _ => ?_⟩
  by_cases e2 : i = k
  ·rw [if_pos e2, e2]
  ·rw [if_neg e2, if_neg e2]
 ·rw [if_neg e]
  have hc : ∀ i c, c < C → cell (swR m C k t) C i c = if i = k then cell m C t c else if i = t then cell m C k c else cell m C i c := fun i c h => cell_swR hl hk ht e h
  refine ⟨by unfold swR; rw [swN_len]; exact hl, fun x => ?_, hc⟩
  have h1 : rdot (swR m C k t) C k x C = rdot m C t x C := rdot_congr fun c h => by rw [hc k c h, if_pos rfl]
  have h2 : rdot (swR m C k t) C t x C = rdot m C k x C := rdot_congr fun c h => by rw [hc t c h, if_neg (Ne.symm e), if_pos rfl]
  have h3 : ∀ i, i ≠ k → i ≠ t → rdot (swR m C k t) C i x C = rdot m C i x C := fun i n1 n2 => rdot_congr fun c h => by rw [hc i c h, if_neg n1, if_neg n2]
  constructor
  ·intro h i hi
   by_cases e1 : i = k
   ·rw [e1, h1]; exact h t ht
   ·by_cases e2 : i = t
    ·rw [e2, h2]; exact h k hk
    ·rw [h3 i e1 e2]; exact h i hi
  ·intro h i hi
   by_cases e1 : i = k
   ·rw [e1, ← h2]; exact h t ht
   ·by_cases e2 : i = t
    ·rw [e2, ← h1]; exact h k hk
    ·rw [← h3 i e1 e2]; exact h i hi
structure Pvs (C R : Nat) (m : List Int) (j t : Nat) (p : Nat → Nat) : Prop where
 len : m.length = R * C
 le : t ≤ R
 piv : ∀ l, l < t → p l < j ∧ cell m C l (p l) ≠ 0 ∧ ∀ i, i < R → i ≠ l → cell m C i (p l) = 0
 low : ∀ i, t ≤ i → i < R → ∀ k, k < j → cell m C i k = 0
theorem ecN_spec {C R : Nat} : ∀ {n j t : Nat} {m m' : List Int} {p : Nat → Nat} {T : Nat}, j + n = C → Pvs C R m j t p → ecN C R n j t m = some (T, m') → (∀ x, kerL m C R x ↔ kerL m' C R x) ∧ ∃ p', Pvs C R m' C T p'
 | 0, j, t, m, m', p, T, hj, hP, h => by
  obtain ⟨rfl, rfl⟩ := Prod.mk.inj (Option.some.inj (show some (t, m) = some (T, m') from h))
  obtain rfl : j = C := by omega
  exact ⟨fun _ => Iff.rfl, p, hP⟩
 | n + 1, j, t, m, m', p, T, hj, hP, h => by
  by_cases htR : t < R
  ·by_cases hk : elK m C j (R - t) t = R
   ·rw [ecN_skip htR rfl hk] at h
    refine ecN_spec (p := p) (by omega) ⟨hP.len, hP.le, fun l hl => ?_, fun i h1 h2 k h3 => ?_⟩ h
    ·obtain ⟨q1, q2, q3⟩ := hP.piv l hl
     exact ⟨by omega, q2, q3⟩
    ·by_cases e : k = j
     ·subst e
      rcases elK_spec (m := m) (C := C) (j := k) (n := R - t) (k := t) with ⟨_, h4⟩ | ⟨_, h4, _⟩
      ·exact h4 i h1 (by omega)
      ·omega
     ·exact hP.low i h1 h2 k (by omega)
   ·obtain ⟨k, hkk⟩ : ∃ k, k = elK m C j (R - t) t := ⟨_, rfl⟩
    obtain ⟨hk1, hk2, hk3⟩ : t ≤ k ∧ k < R ∧ cell m C k j ≠ 0 := by
     rcases elK_spec (m := m) (C := C) (j := j) (n := R - t) (k := t) with ⟨h4, _⟩ | ⟨h3, h4, h5⟩
     ·exact (hk (by omega)).elim
     ·rw [hkk]; exact ⟨h3, by omega, h5⟩
    obtain ⟨c1, c2, c3⟩ := elM1_spec hP.len htR hk2
    cases he : ecElim C j t R (elM1 m C t k) with
    | none => rw [ecN_none htR hkk (by omega) he] at h; cases h
    | some m2 =>
     rw [ecN_some htR hkk (by omega) he] at h
     have hjC : j < C := by omega
     have hpv : cell (elM1 m C t k) C t j ≠ 0 := by
      rw [c3 t j hjC]
      by_cases e : t = k
      ·rw [if_pos e, e]; exact hk3
      ·rw [if_neg e, if_pos rfl]; exact hk3
     obtain ⟨d1, d2, d3, d4, d5⟩ := elim_spec htR hjC (Nat.le_refl _) c1 hpv he
     have hlow : ∀ i, t ≤ i → i < R → ∀ c, c < j → cell (elM1 m C t k) C i c = 0 := fun i h1 h2 c hc => by
      rw [c3 i c (by omega)]
      split
      ·exact hP.low t (Nat.le_refl _) htR c hc
      ·split
       ·exact hP.low k hk1 hk2 c hc
       ·exact hP.low i h1 h2 c hc
     have hP' : Pvs C R m2 (j + 1) (t + 1) (fun l => if l = t then j else p l) := by
      refine ⟨d1, htR, fun l hl => ?_, fun i h1 h2 c hc => ?_⟩
      ·show (if l = t then j else p l) < j + 1 ∧ cell m2 C l (if l = t then j else p l) ≠ 0 ∧ ∀ i, i < R → i ≠ l → cell m2 C i (if l = t then j else p l) = 0
       by_cases e : l = t
       ·subst e
        rw [if_pos rfl]
        exact ⟨by omega, by rw [d3 j hjC]; exact hpv, fun i hi hne => d4 i hi hne⟩
       ·rw [if_neg e]
        obtain ⟨q1, q2, q3⟩ := hP.piv l (by omega)
        have ht0 : cell (elM1 m C t k) C t (p l) = 0 := hlow t (Nat.le_refl _) htR _ q1
        refine ⟨by omega, fun h0 => ?_, fun i hi hne => ?_⟩
        ·rw [d5 l (p l) (by omega) ht0, c3 l (p l) (by omega), if_neg (by omega), if_neg (by omega)] at h0
         exact q2 h0
        ·rw [d5 i (p l) (by omega) ht0, c3 i (p l) (by omega)]
         split
         ·exact q3 t htR (by omega)
         ·split
          ·exact q3 k hk2 (by omega)
          ·exact q3 i hi hne
      ·by_cases e : c = j
       ·subst e
        exact d4 i h2 (by omega)
       ·rw [d5 i c (by omega) (hlow t (Nat.le_refl _) htR c (by omega))]
        exact hlow i (by omega) h2 c (by omega)
     obtain ⟨g1, g2⟩ := ecN_spec (by omega) hP' h
     exact ⟨fun x => ((c2 x).trans (d2 x)).trans (g1 x), g2⟩
  ·rw [ecN_full htR] at h
   obtain ⟨rfl, rfl⟩ := Prod.mk.inj (Option.some.inj h)
   refine ⟨fun _ => Iff.rfl, p, hP.len, hP.le, fun l hl => ?_, fun i h1 h2 k h3 => by omega⟩
   obtain ⟨q1, q2, q3⟩ := hP.piv l hl
   exact ⟨by omega, q2, q3⟩
theorem pvs_le {C R R' a b : Nat} {m m' : List Int} {p p' : Nat → Nat} (h : Pvs C R m C a p) (h' : Pvs C R' m' C b p') (hk : ∀ x, kerL m' C R' x → kerL m C R x) : a ≤ b := by
 by_cases hab : a ≤ b
 ·exact hab
 ·exfalso
  have hnd : ((List.range a).map p).Nodup := by
   unfold List.Nodup
   rw [List.pairwise_map]
   refine List.Pairwise.imp_of_mem (R := fun x y => x < y) (fun {x y} hx hy hlt e => ?_) List.pairwise_lt_range
   have hx := List.mem_range.1 hx
   have hy := List.mem_range.1 hy
   obtain ⟨_, q2, q3⟩ := h.piv x hx
   have h1 := (h.piv y hy).2.2 x (by have := h.le; omega) (by omega)
   rw [← e] at h1
   exact q2 h1
  obtain ⟨x, hx1, ⟨k1, hk1⟩, hx3⟩ := siegel m' C b ((List.range a).map p) hnd (by simp; omega)
  have hker : kerL m' C R' x := fun i hi => by
   by_cases e : i < b
   ·exact hx3 i e
   ·exact rdot_zero fun k hk => by rw [h'.low i (by omega) hi k hk, Int.zero_mul]
  have hk0 := hk x hker
  have hz : ∀ l, l < a → x (p l) = 0 := fun l hl => by
   obtain ⟨q1, q2, q3⟩ := h.piv l hl
   have h1 := hk0 l (by have := h.le; omega)
   have hone : rdot m C l x C = cell m C l (p l) * x (p l) := rdot_one q1 (fun k hk hne => ?_)
   ·rw [hone] at h1
    rcases Int.mul_eq_zero.1 h1 with h1 | h1
    ·exact (q2 h1).elim
    ·exact h1
   ·by_cases hm : k ∈ (List.range a).map p
    ·obtain ⟨l', hl', rfl⟩ := List.mem_map.1 hm
     have hl' := List.mem_range.1 hl'
     have hne2 : l ≠ l' := fun e => hne (by rw [e])
     rw [(h.piv l' hl').2.2 l (by have := h.le; omega) hne2, Int.zero_mul]
    ·rw [hx1 k hm, Int.mul_zero]
  apply hk1
  by_cases hm : k1 ∈ (List.range a).map p
  ·obtain ⟨l', hl', rfl⟩ := List.mem_map.1 hm
   exact hz l' (List.mem_range.1 hl')
  ·exact hx1 k1 hm
theorem echR_spec {m : Mat} {T : Nat} {z : List Int} (h : echR m = some (T, z)) : ∃ p, Pvs m.cols.toNat m.rows.toNat z m.cols.toNat T p ∧ ∀ x, kerL m.cells m.cols.toNat m.rows.toNat x ↔ kerL z m.cols.toNat m.rows.toNat x := by
 unfold echR at h
 by_cases hB : isMatB m = true
 ·rw [if_pos hB] at h
  obtain ⟨R, C, hmr, hmc, hR, hC, hl, hnum⟩ := isMatB_shape hB
  rw [hmr, hmc, Int.toNat_natCast, Int.toNat_natCast] at h ⊢
  obtain ⟨g1, p', g2⟩ := ecN_spec (p := fun _ => 0) (by omega) (show Pvs C R (primAll m.cells C R) 0 0 _ from ⟨by rw [primAll_len]; exact hl, Nat.zero_le _, fun l hl => by omega, fun i _ _ k hk => by omega⟩) h
  exact ⟨p', g2, fun x => (ker_primAll hl x (Nat.le_refl _)).trans (g1 x)⟩
 ·rw [if_neg hB] at h; cases h
theorem ecT_stack {r v : Mat} (hs : stackOk r v = true) (h1 : ecOk r = true) (h2 : ecOk (stackB r v) = true) : ecT r ≤ ecT (stackB r v) := by
 obtain ⟨⟨a, z⟩, ha⟩ := Option.isSome_iff_exists.1 (show (echR r).isSome = true from h1)
 obtain ⟨⟨b, z'⟩, hb⟩ := Option.isSome_iff_exists.1 (show (echR (stackB r v)).isSome = true from h2)
 rw [(ec_some ha).2, (ec_some hb).2]
 obtain ⟨p, hp, k1⟩ := echR_spec ha
 obtain ⟨p', hp', k2⟩ := echR_spec hb
 have hsb := (stack_yes hs).2
 have hmr : isMatB r = true := by
  unfold stackOk at hs
  rw [Bool.and_eq_true] at hs
  exact hs.1
 have hmv : isMatB v = true := by
  unfold stackOk at hs
  rw [Bool.and_eq_true, Bool.and_eq_true] at hs
  exact hs.2.1
 obtain ⟨R, C, e1, e2, hR, hC, hl, hnum⟩ := isMatB_shape hmr
 obtain ⟨R', C', e1', e2', hR', hC', hl', hnum'⟩ := isMatB_shape hmv
 rw [hsb] at hp' k2
 simp only at hp' k2
 rw [e2] at hp hp' k1 k2
 rw [e1] at hp hp' k1 k2
 rw [e1'] at hp' k2
 have hRR : ((R : Int) + R').toNat = R + R' := by omega
 rw [Int.toNat_natCast] at hp hp' k1 k2
 rw [Int.toNat_natCast] at hp k1
 rw [hRR] at hp' k2
 refine pvs_le hp hp' fun x hx => (k1 x).1 fun i hi => ?_
 have h3 := (k2 x).2 hx i (by omega)
 rw [rdot_congr (m' := r.cells) (i' := i)] at h3
 ·exact h3
 ·intro k hk
  have hlt : i * C + k < R * C := place_lt hk hi
  unfold cell
  simp only [List.getD_eq_getElem?_getD]
  rw [List.getElem?_append_left (by omega)]
end Go.Proofs.Ytoiblknchcoecaa
