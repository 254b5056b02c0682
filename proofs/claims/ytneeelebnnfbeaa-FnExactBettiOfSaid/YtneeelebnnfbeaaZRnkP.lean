/-
  The rank of more rows is not less: plain.
-/
import Derived.Test.YtneeelebnnfbeaaZEch
import Derived.Test.YtneeelebnnfbeaaZStack
set_option maxHeartbeats 8000000
set_option maxRecDepth 100000
namespace Go.Proofs.Ytneeelebnnfbeaa
def rdot (m : List Int) (C i : Nat) (x : Nat → Int) : Nat → Int
 | 0 => 0
 | n + 1 => rdot m C i x n + cell m C i n * x n
def kerL (m : List Int) (C R : Nat) (x : Nat → Int) : Prop := ∀ i, i < R → rdot m C i x C = 0
theorem rdot_congr {m m' : List Int} {C i i' : Nat} {x : Nat → Int} : ∀ {n : Nat}, (∀ k, k < n → cell m C i k = cell m' C i' k) → rdot m C i x n = rdot m' C i' x n
 | 0, _ => rfl
 | n + 1, h => by
  simp only [rdot]
  rw [rdot_congr (fun k hk => h k (by omega)), h n (by omega)]
theorem rdot_scale {m m' : List Int} {C i i' : Nat} {d : Int} {x : Nat → Int} : ∀ {n : Nat}, (∀ k, k < n → cell m C i k = d * cell m' C i' k) → rdot m C i x n = d * rdot m' C i' x n
 | 0, _ => by simp [rdot]
 | n + 1, h => by
  simp only [rdot]
  rw [rdot_scale (fun k hk => h k (by omega)), h n (by omega), Int.mul_add, Int.mul_assoc]
theorem rdot_lin {m m' : List Int} {C i i' t : Nat} {a b : Int} {x : Nat → Int} : ∀ {n : Nat}, (∀ k, k < n → cell m' C i' k = a * cell m C i k - b * cell m C t k) → rdot m' C i' x n = a * rdot m C i x n - b * rdot m C t x n
 | 0, _ => by simp [rdot]
 | n + 1, h => by
  simp only [rdot]
  rw [rdot_lin (fun k hk => h k (by omega)), h n (by omega), Int.mul_add, Int.mul_add, Int.sub_mul, Int.mul_assoc, Int.mul_assoc]
  omega
theorem rowG_dvd {m : List Int} {C i : Nat} : ∀ {n k : Nat}, k < n → ((rowG m C i n : Nat) : Int) ∣ cell m C i k
 | 0, _, h => by omega
 | n + 1, k, h => by
  simp only [rowG]
  by_cases e : k = n
  ·subst e
   exact Int.ofNat_dvd_left.2 (Nat.gcd_dvd_right _ _)
  ·exact Int.dvd_trans (Int.natCast_dvd_natCast.2 (Nat.gcd_dvd_left _ _)) (rowG_dvd (by omega))
theorem primD_dvd {m : List Int} {C i k : Nat} (hk : k < C) : primD m C i ∣ cell m C i k := by
 unfold primD
 split
 ·exact rowG_dvd hk
 ·exact Int.neg_dvd.2 (rowG_dvd hk)
theorem primD_ne {m : List Int} {C i : Nat} (h : rowG m C i C ≠ 0) : primD m C i ≠ 0 := by
 unfold primD
 split <;> omega
theorem primV_mul {m : List Int} {C i k : Nat} (hk : k < C) : cell m C i k = primD m C i * primV m C i k := by
 unfold primV
 rw [Int.mul_tdiv_cancel' (primD_dvd hk)]
theorem primR_mul {m : List Int} {C R i : Nat} (hl : m.length = R * C) (hi : i < R) : ∃ d : Int, d ≠ 0 ∧ (∀ k, k < C → cell m C i k = d * cell (primR m C i) C i k) ∧ ∀ i' k, k < C → i' ≠ i → cell (primR m C i) C i' k = cell m C i' k := by
 unfold primR
 by_cases h0 : rowG m C i C = 0
 ·rw [if_pos h0]
  exact ⟨1, by decide, fun k _ => by omega, fun _ _ _ _ => rfl⟩
 ·rw [if_neg h0]
  refine ⟨primD m C i, primD_ne h0, fun k hk => ?_, fun i' k hk hne => ?_⟩
  ·rw [cell_upd hl hi hk, if_pos rfl]; exact primV_mul hk
  ·rw [cell_upd hl hi hk, if_neg hne]
theorem ker_scale {m m' : List Int} {C R i : Nat} {d : Int} (hd : d ≠ 0) (h1 : ∀ k, k < C → cell m C i k = d * cell m' C i k) (h2 : ∀ i' k, k < C → i' ≠ i → cell m' C i' k = cell m C i' k) (x : Nat → Int) : kerL m C R x ↔ kerL m' C R x := by
 constructor
 ·intro h i' hi'
  by_cases e : i' = i
  ·subst e
   have h3 := h i' hi'
   rw [rdot_scale h1] at h3
   rcases Int.mul_eq_zero.1 h3 with h3 | h3
   ·exact (hd h3).elim
   ·exact h3
  ·rw [rdot_congr (fun k hk => h2 i' k hk e)]; exact h i' hi'
 ·intro h i' hi'
  by_cases e : i' = i
  ·subst e
   rw [rdot_scale h1, h i' hi', Int.mul_zero]
  ·rw [rdot_congr (fun k hk => (h2 i' k hk e).symm)]; exact h i' hi'
theorem ker_primAll {m : List Int} {C R : Nat} (hl : m.length = R * C) (x : Nat → Int) : ∀ {n : Nat}, n ≤ R → (kerL m C R x ↔ kerL (primAll m C n) C R x)
 | 0, _ => Iff.rfl
 | n + 1, h => by
  simp only [primAll]
  obtain ⟨d, hd, h1, h2⟩ := primR_mul (m := primAll m C n) (C := C) (R := R) (i := n) (by rw [primAll_len]; exact hl) h
  exact (ker_primAll hl x (by omega)).trans (ker_scale hd h1 h2 x)
theorem elRow_spec {m : List Int} {C R i t j : Nat} (hl : m.length = R * C) (hi : i < R) (ht : t < R) (hne : i ≠ t) (hj : j < C) (hc : cell m C t j ≠ 0) :
  (∀ x, kerL m C R x ↔ kerL (elRow m C i t j) C R x) ∧ cell (elRow m C i t j) C i j = 0 ∧ (∀ i' k, k < C → i' ≠ i → cell (elRow m C i t j) C i' k = cell m C i' k) ∧ ∀ k, k < C → cell m C t k = 0 → (cell (elRow m C i t j) C i k = 0 ↔ cell m C i k = 0) := by
 have hg : elG m C i t j ≠ 0 := by
  unfold elG gI Int.gcd
  have := Nat.gcd_pos_of_pos_right (cell m C i j).natAbs (show 0 < (cell m C t j).natAbs by omega)
  omega
 have hgt : elG m C i t j ∣ cell m C t j := by unfold elG gI; exact Int.gcd_dvd_right _ _
 have hgi : elG m C i t j ∣ cell m C i j := by unfold elG gI; exact Int.gcd_dvd_left _ _
 obtain ⟨ct, hct⟩ : ∃ ct, ct = (cell m C t j).tdiv (elG m C i t j) := ⟨_, rfl⟩
 obtain ⟨ci, hci⟩ : ∃ ci, ci = (cell m C i j).tdiv (elG m C i t j) := ⟨_, rfl⟩
 have ect : elG m C i t j * ct = cell m C t j := by rw [hct]; exact Int.mul_tdiv_cancel' hgt
 have eci : elG m C i t j * ci = cell m C i j := by rw [hci]; exact Int.mul_tdiv_cancel' hgi
 have hct0 : ct ≠ 0 := fun e => by rw [e, Int.mul_zero] at ect; exact hc ect.symm
 obtain ⟨m1, hm1⟩ : ∃ m1, m1 = updR (elW m C i t j) (i * C) C m := ⟨_, rfl⟩
 have hl1 : m1.length = R * C := by rw [hm1, updR_len]; exact hl
 have c1 : ∀ i' k, k < C → cell m1 C i' k = if i' = i then ct * cell m C i k - ci * cell m C t k else cell m C i' k := fun i' k hk => by
  rw [hm1, cell_upd hl hi hk]
  split
  ·unfold elW; rw [← hct, ← hci]
  ·rfl
 obtain ⟨d, hd, h1, h2⟩ := primR_mul (m := m1) (C := C) (R := R) (i := i) hl1 hi
 have hE : elRow m C i t j = primR m1 C i := by unfold elRow; rw [← hm1]
 rw [hE]
 have k1 : ∀ x, kerL m C R x ↔ kerL m1 C R x := fun x => by
  constructor
  ·intro h i' hi'
   by_cases e : i' = i
   ·subst e
    rw [rdot_lin (a := ct) (b := ci) (i := i') (t := t) (m := m) (fun k hk => by rw [c1 i' k hk, if_pos rfl]), h i' hi', h t ht]; omega
   ·rw [rdot_congr (m' := m) (i' := i') (fun k hk => by rw [c1 i' k hk, if_neg e])]; exact h i' hi'
  ·intro h i' hi'
   have hrt : rdot m C t x C = 0 := by
    have := h t ht
    rw [rdot_congr (m' := m) (i' := t) (fun k hk => by rw [c1 t k hk, if_neg (by omega)])] at this
    exact this
   by_cases e : i' = i
   ·subst e
    have h3 := h i' hi'
    rw [rdot_lin (a := ct) (b := ci) (i := i') (t := t) (m := m) (fun k hk => by rw [c1 i' k hk, if_pos rfl]), hrt, Int.mul_zero, Int.sub_zero] at h3
    rcases Int.mul_eq_zero.1 h3 with h3 | h3
    ·exact (hct0 h3).elim
    ·exact h3
   ·have h3 := h i' hi'
    rw [rdot_congr (m' := m) (i' := i') (fun k hk => by rw [c1 i' k hk, if_neg e])] at h3
    exact h3
 have hz : ∀ k, k < C → (cell (primR m1 C i) C i k = 0 ↔ cell m1 C i k = 0) := fun k hk => by
  rw [h1 k hk]
  constructor
  ·intro e; rw [e, Int.mul_zero]
  ·intro e
   rcases Int.mul_eq_zero.1 e with e | e
   ·exact (hd e).elim
   ·exact e
 refine ⟨fun x => (k1 x).trans (ker_scale hd h1 h2 x), ?_, fun i' k hk hne' => ?_, fun k hk h0 => ?_⟩
 ·rw [hz j hj, c1 i j hj, if_pos rfl, ← ect, ← eci, Int.mul_left_comm, Int.mul_left_comm ci, Int.mul_comm ci ct]; omega
 ·rw [h2 i' k hk hne', c1 i' k hk, if_neg hne']
 ·rw [hz k hk, c1 i k hk, if_pos rfl, h0, Int.mul_zero, Int.sub_zero]
  constructor
  ·intro e
   rcases Int.mul_eq_zero.1 e with e | e
   ·exact (hct0 e).elim
   ·exact e
  ·intro e; rw [e, Int.mul_zero]
theorem elim_spec {C R j t : Nat} (ht : t < R) (hj : j < C) : ∀ {n : Nat} {m m' : List Int}, n ≤ R → m.length = R * C → cell m C t j ≠ 0 → ecElim C j t n m = some m' →
  m'.length = R * C ∧ (∀ x, kerL m C R x ↔ kerL m' C R x) ∧ (∀ k, k < C → cell m' C t k = cell m C t k) ∧ (∀ i, i < n → i ≠ t → cell m' C i j = 0) ∧ (∀ i k, k < C → cell m C t k = 0 → (cell m' C i k = 0 ↔ cell m C i k = 0))
 | 0, m, m', _, hl, hc, h => by
  obtain rfl := Option.some.inj (show some m = some m' from h)
  exact ⟨hl, fun _ => Iff.rfl, fun _ _ => rfl, fun i hi => by omega, fun _ _ _ _ => Iff.rfl⟩
 | n + 1, m, m', hn, hl, hc, h => by
  simp only [ecElim] at h
  cases he : ecElim C j t n m with
  | none => rw [he] at h; cases h
  | some m1 =>
   rw [he] at h
   obtain ⟨a1, a2, a3, a4, a5⟩ := elim_spec ht hj (by omega) hl hc he
   simp only at h
   by_cases h1 : n = t ∨ cell m1 C n j = 0
   ·rw [if_pos h1] at h
    obtain rfl := Option.some.inj h
    refine ⟨a1, a2, a3, fun i hi hne => ?_, a5⟩
    by_cases e : i = n
    ·subst e
     rcases h1 with h1 | h1
     ·exact (hne h1).elim
     ·exact h1
    ·exact a4 i (by omega) hne
   ·rw [if_neg h1] at h
    by_cases h2 : elWok m1 C n t j = true
    ·rw [if_pos h2] at h
     obtain rfl := Option.some.inj h
     have hnt : n ≠ t := fun e => h1 (.inl e)
     obtain ⟨b1, b2, b3, b4⟩ := elRow_spec a1 (by omega) ht hnt hj (by rw [a3 j hj]; exact hc)
     refine ⟨by rw [elRow_len]; exact a1, fun x => (a2 x).trans (b1 x), fun k hk => by rw [b3 t k hk (Ne.symm hnt), a3 k hk], fun i hi hne => ?_, fun i k hk h0 => ?_⟩
     ·by_cases e : i = n
      ·subst e; exact b2
      ·rw [b3 i j hj e]; exact a4 i (by omega) hne
     ·by_cases e : i = n
      ·subst e
       rw [b4 k hk (by rw [a3 k hk]; exact h0)]; exact a5 i k hk h0
      ·rw [b3 i k hk e]; exact a5 i k hk h0
    ·rw [if_neg h2] at h; cases h
theorem elK_spec {m : List Int} {C j : Nat} : ∀ {n k : Nat}, (elK m C j n k = k + n ∧ ∀ i, k ≤ i → i < k + n → cell m C i j = 0) ∨ (k ≤ elK m C j n k ∧ elK m C j n k < k + n ∧ cell m C (elK m C j n k) j ≠ 0)
 | 0, k => .inl ⟨rfl, fun i h1 h2 => by omega⟩
 | n + 1, k => by
  simp only [elK]
  by_cases h : cell m C k j = 0
  ·rw [if_pos h]
   rcases elK_spec (m := m) (C := C) (j := j) (n := n) (k := k + 1) with ⟨h1, h2⟩ | ⟨h1, h2, h3⟩
   ·refine .inl ⟨by omega, fun i h3 h4 => ?_⟩
    by_cases e : i = k
    ·subst e; exact h
    ·exact h2 i (by omega) (by omega)
   ·exact .inr ⟨by omega, by omega, h3⟩
  ·rw [if_neg h]
   exact .inr ⟨Nat.le_refl _, by omega, h⟩
theorem elM1_spec {m : List Int} {C R t k : Nat} (hl : m.length = R * C) (ht : t < R) (hk : k < R) : (elM1 m C t k).length = R * C ∧ (∀ x, kerL m C R x ↔ kerL (elM1 m C t k) C R x) ∧ ∀ i c, c < C → cell (elM1 m C t k) C i c = if i = k then cell m C t c else if i = t then cell m C k c else cell m C i c := by
 unfold elM1
 by_cases e : k = t
 ·rw [if_pos e]; subst e
  refine ⟨hl, fun _ => Iff.rfl, fun i c _ => ?_⟩
  by_cases e2 : i = k
  ·rw [if_pos e2, e2]
  ·rw [if_neg e2, if_neg e2]
 ·rw [if_neg e]
  have hc : ∀ i c, c < C → cell (swR m C k t) C i c = if i = k then cell m C t c else if i = t then cell m C k c else cell m C i c := fun i c h => cell_swR hl hk ht e h
  refine ⟨by unfold swR; rw [swN_len]; exact hl, fun x => ?_, hc⟩
  have h1 : rdot (swR m C k t) C k x C = rdot m C t x C := rdot_congr fun c h => by rw [hc k c h, if_pos rfl]
  have h2 : rdot (swR m C k t) C t x C = rdot m C k x C := rdot_congr fun c h => by rw [hc t c h, if_neg (Ne.symm e), if_pos rfl]
  have h3 : ∀ i, i ≠ k → i ≠ t → rdot (swR m C k t) C i x C = rdot m C i x C := fun i n1 n2 => rdot_congr fun c h => by rw [hc i c h, if_neg n1, if_neg n2]
  constructor
  ·intro h i hi
   by_cases e1 : i = k
   ·rw [e1, h1]; exact h t ht
   ·by_cases e2 : i = t
    ·rw [e2, h2]; exact h k hk
    ·rw [h3 i e1 e2]; exact h i hi
  ·intro h i hi
   by_cases e1 : i = k
   ·rw [e1, ← h2]; exact h t ht
   ·by_cases e2 : i = t
    ·rw [e2, ← h1]; exact h k hk
    ·rw [← h3 i e1 e2]; exact h i hi
structure Pvs (C R : Nat) (m : List Int) (j t : Nat) (p : Nat → Nat) : Prop where
 len : m.length = R * C
 le : t ≤ R
 piv : ∀ l, l < t → p l < j ∧ cell m C l (p l) ≠ 0 ∧ ∀ i, i < R → i ≠ l → cell m C i (p l) = 0
 low : ∀ i, t ≤ i → i < R → ∀ k, k < j → cell m C i k = 0
theorem ecN_spec {C R : Nat} : ∀ {n j t : Nat} {m m' : List Int} {p : Nat → Nat} {T : Nat}, j + n = C → Pvs C R m j t p → ecN C R n j t m = some (T, m') → (∀ x, kerL m C R x ↔ kerL m' C R x) ∧ ∃ p', Pvs C R m' C T p'
 | 0, j, t, m, m', p, T, hj, hP, h => by
  obtain ⟨rfl, rfl⟩ := Prod.mk.inj (Option.some.inj (show some (t, m) = some (T, m') from h))
  obtain rfl : j = C := by omega
  exact ⟨fun _ => Iff.rfl, p, hP⟩
 | n + 1, j, t, m, m', p, T, hj, hP, h => by
  by_cases htR : t < R
  ·by_cases hk : elK m C j (R - t) t = R
   ·rw [ecN_skip htR rfl hk] at h
    refine ecN_spec (p := p) (by omega) ⟨hP.len, hP.le, fun l hl => ?_, fun i h1 h2 k h3 => ?_⟩ h
    ·obtain ⟨q1, q2, q3⟩ := hP.piv l hl
     exact ⟨by omega, q2, q3⟩
    ·by_cases e : k = j
     ·subst e
      rcases elK_spec (m := m) (C := C) (j := k) (n := R - t) (k := t) with ⟨_, h4⟩ | ⟨_, h4, _⟩
      ·exact h4 i h1 (by omega)
      ·omega
     ·exact hP.low i h1 h2 k (by omega)
   ·obtain ⟨k, hkk⟩ : ∃ k, k = elK m C j (R - t) t := ⟨_, rfl⟩
    obtain ⟨hk1, hk2, hk3⟩ : t ≤ k ∧ k < R ∧ cell m C k j ≠ 0 := by
     rcases elK_spec (m := m) (C := C) (j := j) (n := R - t) (k := t) with ⟨h4, _⟩ | ⟨h3, h4, h5⟩
     ·exact (hk (by omega)).elim
     ·rw [hkk]; exact ⟨h3, by omega, h5⟩
    obtain ⟨c1, c2, c3⟩ := elM1_spec hP.len htR hk2
    cases he : ecElim C j t R (elM1 m C t k) with
    | none => rw [ecN_none htR hkk (by omega) he] at h; cases h
    | some m2 =>
     rw [ecN_some htR hkk (by omega) he] at h
     have hjC : j < C := by omega
     have hpv : cell (elM1 m C t k) C t j ≠ 0 := by
      rw [c3 t j hjC]
      by_cases e : t = k
      ·rw [if_pos e, e]; exact hk3
      ·rw [if_neg e, if_pos rfl]; exact hk3
     obtain ⟨d1, d2, d3, d4, d5⟩ := elim_spec htR hjC (Nat.le_refl _) c1 hpv he
     have hlow : ∀ i, t ≤ i → i < R → ∀ c, c < j → cell (elM1 m C t k) C i c = 0 := fun i h1 h2 c hc => by
      rw [c3 i c (by omega)]
      split
      ·exact hP.low t (Nat.le_refl _) htR c hc
      ·split
       ·exact hP.low k hk1 hk2 c hc
       ·exact hP.low i h1 h2 c hc
     have hP' : Pvs C R m2 (j + 1) (t + 1) (fun l => if l = t then j else p l) := by
      refine ⟨d1, htR, fun l hl => ?_, fun i h1 h2 c hc => ?_⟩
      ·show (if l = t then j else p l) < j + 1 ∧ cell m2 C l (if l = t then j else p l) ≠ 0 ∧ ∀ i, i < R → i ≠ l → cell m2 C i (if l = t then j else p l) = 0
       by_cases e : l = t
       ·subst e
        rw [if_pos rfl]
        exact ⟨by omega, by rw [d3 j hjC]; exact hpv, fun i hi hne => d4 i hi hne⟩
       ·rw [if_neg e]
        obtain ⟨q1, q2, q3⟩ := hP.piv l (by omega)
        have ht0 : cell (elM1 m C t k) C t (p l) = 0 := hlow t (Nat.le_refl _) htR _ q1
        refine ⟨by omega, fun h0 => ?_, fun i hi hne => ?_⟩
        ·rw [d5 l (p l) (by omega) ht0, c3 l (p l) (by omega), if_neg (by omega), if_neg (by omega)] at h0
         exact q2 h0
        ·rw [d5 i (p l) (by omega) ht0, c3 i (p l) (by omega)]
         split
         ·exact q3 t htR (by omega)
         ·split
          ·exact q3 k hk2 (by omega)
          ·exact q3 i hi hne
      ·by_cases e : c = j
       ·subst e
        exact d4 i h2 (by omega)
       ·rw [d5 i c (by omega) (hlow t (Nat.le_refl _) htR c (by omega))]
        exact hlow i (by omega) h2 c (by omega)
     obtain ⟨g1, g2⟩ := ecN_spec (by omega) hP' h
     exact ⟨fun x => ((c2 x).trans (d2 x)).trans (g1 x), g2⟩
  ·rw [ecN_full htR] at h
   obtain ⟨rfl, rfl⟩ := Prod.mk.inj (Option.some.inj h)
   refine ⟨fun _ => Iff.rfl, p, hP.len, hP.le, fun l hl => ?_, fun i h1 h2 k h3 => by omega⟩
   obtain ⟨q1, q2, q3⟩ := hP.piv l hl
   exact ⟨by omega, q2, q3⟩
theorem echR_spec {m : Mat} {T : Nat} {z : List Int} (h : echR m = some (T, z)) : ∃ p, Pvs m.cols.toNat m.rows.toNat z m.cols.toNat T p ∧ ∀ x, kerL m.cells m.cols.toNat m.rows.toNat x ↔ kerL z m.cols.toNat m.rows.toNat x := by
 unfold echR at h
 by_cases hB : isMatB m = true
 ·rw [if_pos hB] at h
  obtain ⟨R, C, hmr, hmc, hR, hC, hl, hnum⟩ := isMatB_shape hB
  rw [hmr, hmc, Int.toNat_natCast, Int.toNat_natCast] at h ⊢
  obtain ⟨g1, p', g2⟩ := ecN_spec (p := fun _ => 0) (by omega) (show Pvs C R (primAll m.cells C R) 0 0 _ from ⟨by rw [primAll_len]; exact hl, Nat.zero_le _, fun l hl => by omega, fun i _ _ k hk => by omega⟩) h
  exact ⟨p', g2, fun x => (ker_primAll hl x (Nat.le_refl _)).trans (g1 x)⟩
 ·rw [if_neg hB] at h; cases h
end Go.Proofs.Ytneeelebnnfbeaa
