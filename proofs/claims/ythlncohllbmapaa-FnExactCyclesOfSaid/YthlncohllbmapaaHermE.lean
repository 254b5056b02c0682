/-
  The Hermite form's rows: those that are not zeros come first.
-/
import Derived.Test.YthlncohllbmapaaHermP
namespace Go.Proofs.Ythlncohllbmapaa

structure Ech (C R : Nat) (m : List Int) (j t : Nat) : Prop where
  full : ∀ i, i < t → ∃ k, k < j ∧ cell m C i k ≠ 0
  zero : ∀ i, t ≤ i → i < R → ∀ k, k < j → cell m C i k = 0
theorem gcdL_spec {C R j t : Nat} (hj : j < C) : ∀ {n : Nat} {s s' : HS} {p p' : Nat}, Hs C R s → Piv s.1 C R j p t → gcdL C R j t n s p = some (s', p') →
    Hs C R s' ∧ Piv s'.1 C R j p' t ∧ aloneB s'.1 C R j p' t = true ∧ (∀ i' k, k < C → i' < t → cell s'.1 C i' k = cell s.1 C i' k) ∧ (∀ k, k < C → (∀ i', t ≤ i' → i' < R → cell s.1 C i' k = 0) → ∀ i', t ≤ i' → i' < R → cell s'.1 C i' k = 0)
  | 0, _, _, _, _, _, _, h => by cases h
  | n + 1, s, s', p, p', hs, hv, h => by
    simp only [gcdL] at h
    cases ha : aloneB s.1 C R j p t with
    | true =>
      rw [ha, if_pos rfl] at h
      obtain ⟨rfl, rfl⟩ := Prod.mk.inj (Option.some.inj h)
      exact ⟨hs, hv, ha, fun _ _ _ _ => rfl, fun k _ hz => hz⟩
    | false =>
      rw [ha, if_neg (by simp)] at h
      cases he : pass C R j p (R - t) t s with
      | none => rw [he] at h; cases h
      | some s1 =>
        rw [he] at h
        obtain ⟨g1, _, g3, _, g5, g6⟩ := pass_piv hj hs hv ha he
        obtain ⟨e1, e2, e3, e4, e5⟩ := gcdL_spec hj g1 g3 (show gcdL C R j t n s1 _ = _ from h)
        exact ⟨e1, e2, e3, fun i' k hk hi => (e4 i' k hk hi).trans (g5 i' k hk hi), fun k hk hz => e5 k hk (g6 k hk hz)⟩
theorem red_spec {C R j t : Nat} (hj : j < C) (ht : t < R) : ∀ {n i : Nat} {s s' : HS}, Hs C R s → i + n ≤ t → red C R j t n i s = some s' →
    Hs C R s' ∧ (∀ i' k, k < C → t ≤ i' → cell s'.1 C i' k = cell s.1 C i' k) ∧ (∀ i' k, k < C → cell s.1 C t k = 0 → cell s'.1 C i' k = cell s.1 C i' k)
  | 0, i, s, s', h, _, he => by
    obtain rfl := Option.some.inj he
    exact ⟨h, fun _ _ _ _ => rfl, fun _ _ _ _ => rfl⟩
  | n + 1, i, s, s', h, hn, he => by
    simp only [red] at he
    cases ha : add2 C R i t (-(cell s.1 C i j / cell s.1 C t j)) s with
    | none => rw [ha] at he; cases he
    | some s1 =>
      rw [ha] at he
      obtain ⟨h1, e1⟩ := add2_hs h ha
      have hcell : ∀ i' k, k < C → cell s1.1 C i' k = if i' = i then cell s.1 C i k + cell s.1 C t k * (-(cell s.1 C i j / cell s.1 C t j)) else cell s.1 C i' k := fun i' k hk => by rw [e1]; exact cell_addR h.la (by omega) hk
      obtain ⟨g1, g2, g3⟩ := red_spec hj ht h1 (by omega) (show red C R j t n (i + 1) s1 = some s' from he)
      refine ⟨g1, fun i' k hk hi => by rw [g2 i' k hk hi, hcell i' k hk, if_neg (by omega)], fun i' k hk hz => ?_⟩
      rw [g3 i' k hk (by rw [hcell t k hk, if_neg (by omega)]; exact hz), hcell i' k hk]
      split
      · rename_i e; subst e; rw [hz]; simp
      · rfl
theorem colE_spec {C R j t p : Nat} (hj : j < C) (ht : t < R) {s s' : HS} (h : Hs C R s) (hv : Piv s.1 C R j p t) (ha : aloneB s.1 C R j p t = true) (hE : Ech C R s.1 j t) (he : colE C R j t p s = some s') : Hs C R s' ∧ Ech C R s'.1 (j + 1) (t + 1) := by
  unfold colE at he
  have hal := aloneB_iff.1 ha
  -- the pivot's row at its place
  obtain ⟨h1, f1, z1, a1, n1⟩ : Hs C R (top2 C R p t s) ∧ (∀ i k, k < C → i < t → cell (top2 C R p t s).1 C i k = cell s.1 C i k) ∧ (∀ i, t ≤ i → i < R → ∀ k, k < j → cell (top2 C R p t s).1 C i k = 0) ∧ (∀ i, t < i → i < R → cell (top2 C R p t s).1 C i j = 0) ∧ cell (top2 C R p t s).1 C t j ≠ 0 := by
    unfold top2
    by_cases e : p = t
    · rw [if_pos e]; subst e
      exact ⟨h, fun _ _ _ _ => rfl, hE.zero, fun i h1 h2 => hal i (by omega) h2 (by omega), hv.ne⟩
    · rw [if_neg e]
      have hc : ∀ i k, k < C → cell (sw2 C R p t s).1 C i k = if i = p then cell s.1 C t k else if i = t then cell s.1 C p k else cell s.1 C i k := fun i k hk => cell_swR h.la hv.hi ht e hk
      have hlo := hv.lo
      have hhi := hv.hi
      refine ⟨sw2_hs h, fun i k hk hi => by rw [hc i k hk, if_neg (by omega), if_neg (by omega)], fun i h1 h2 k hk => ?_, fun i h1 h2 => ?_, ?_⟩
      · rw [hc i k (by omega)]
        split
        · exact hE.zero t (Nat.le_refl _) ht k hk
        · split
          · exact hE.zero p hlo hhi k hk
          · exact hE.zero i h1 h2 k hk
      · rw [hc i j hj]
        split
        · exact hal t (Nat.le_refl _) ht (by omega)
        · rw [if_neg (by omega)]; exact hal i (by omega) h2 (by omega)
      · rw [hc t j hj, if_neg (by omega), if_pos rfl]; exact hv.ne
  obtain ⟨h2, f2, z2, a2, n2⟩ : Hs C R (pos2 C R j t (top2 C R p t s)) ∧ (∀ i k, k < C → i < t → cell (pos2 C R j t (top2 C R p t s)).1 C i k = cell s.1 C i k) ∧ (∀ i, t ≤ i → i < R → ∀ k, k < j → cell (pos2 C R j t (top2 C R p t s)).1 C i k = 0) ∧ (∀ i, t < i → i < R → cell (pos2 C R j t (top2 C R p t s)).1 C i j = 0) ∧ cell (pos2 C R j t (top2 C R p t s)).1 C t j ≠ 0 := by
    unfold pos2
    split
    · have hc : ∀ i k, k < C → cell (neg2 C R t (top2 C R p t s)).1 C i k = if i = t then -cell (top2 C R p t s).1 C t k else cell (top2 C R p t s).1 C i k := fun i k hk => cell_negR h1.la ht hk
      refine ⟨neg2_hs h1, fun i k hk hi => by rw [hc i k hk, if_neg (by omega)]; exact f1 i k hk hi, fun i h3 h4 k hk => ?_, fun i h3 h4 => by rw [hc i j hj, if_neg (by omega)]; exact a1 i h3 h4, ?_⟩
      · rw [hc i k (by omega)]
        split
        · rw [z1 t (Nat.le_refl _) ht k hk]; rfl
        · exact z1 i h3 h4 k hk
      · rw [hc t j hj, if_pos rfl]; omega
    · exact ⟨h1, f1, z1, a1, n1⟩
  obtain ⟨g1, g2, g3⟩ := red_spec hj ht h2 (by omega) he
  refine ⟨g1, fun i hi => ?_, fun i h3 h4 k hk => ?_⟩
  · by_cases e : i = t
    · subst e
      exact ⟨j, by omega, by rw [g2 i j hj (Nat.le_refl _)]; exact n2⟩
    · obtain ⟨k, hk, hne⟩ := hE.full i (by omega)
      exact ⟨k, by omega, by rw [g3 i k (by omega) (z2 t (Nat.le_refl _) ht k hk), f2 i k (by omega) (by omega)]; exact hne⟩
  · rw [g2 i k (by omega) (by omega)]
    by_cases e : k = j
    · subst e; exact a2 i (by omega) h4
    · exact z2 i (by omega) h4 k (by omega)
theorem hLoop_spec {C R : Nat} : ∀ {n j t : Nat} {s s' : HS}, Hs C R s → j + n = C → t ≤ R → Ech C R s.1 j t → hLoop C R n j t s = some s' → Hs C R s' ∧ ∃ t', t' ≤ R ∧ Ech C R s'.1 C t'
  | 0, j, t, s, s', h, hj, ht, hE, he => by
    obtain rfl := Option.some.inj he
    obtain rfl : j = C := by omega
    exact ⟨h, t, ht, hE⟩
  | n + 1, j, t, s, s', h, hj, ht, hE, he => by
    simp only [hLoop] at he
    by_cases hlt : t < R
    · rw [if_pos hlt] at he
      by_cases hl : leastN s.1 C j t (R - t) < 0
      · rw [if_pos hl] at he
        refine hLoop_spec h (by omega) ht ⟨fun i hi => ?_, fun i h1 h2 k hk => ?_⟩ he
        · obtain ⟨k, hk, hne⟩ := hE.full i hi
          exact ⟨k, by omega, hne⟩
        · by_cases e : k = j
          · subst e
            rcases leastN_spec s.1 C k t (R - t) with ⟨_, h3⟩ | ⟨p, h3, _⟩
            · have := h3 (i - t) (by omega)
              rwa [show t + (i - t) = i by omega] at this
            · omega
          · exact hE.zero i h1 h2 k (by omega)
      · rw [if_neg hl] at he
        have hv := Piv.of (m := s.1) (C := C) (R := R) (j := j) (t := t) ht (by omega)
        cases hg : gcdA C R j t s (leastN s.1 C j t (R - t)).toNat with
        | none => rw [hg] at he; cases he
        | some r =>
          rw [hg] at he
          obtain ⟨s1, p1⟩ := r
          obtain ⟨g1, g2, g3, g4, g5⟩ := gcdL_spec (by omega) h hv hg
          have hE1 : Ech C R s1.1 j t := ⟨fun i hi => by
            obtain ⟨k, hk, hne⟩ := hE.full i hi
            exact ⟨k, hk, by rw [g4 i k (by omega) hi]; exact hne⟩, fun i h1 h2 k hk => g5 k (by omega) (fun i' h3 h4 => hE.zero i' h3 h4 k hk) i h1 h2⟩
          cases hc : colE C R j t p1 s1 with
          | none => simp only [Option.bind_some, hc] at he; cases he
          | some s2 =>
            simp only [Option.bind_some, hc] at he
            obtain ⟨q1, q2⟩ := colE_spec (by omega) hlt g1 g2 g3 hE1 hc
            exact hLoop_spec q1 (by omega) (by omega) q2 he
    · rw [if_neg hlt] at he
      obtain rfl := Option.some.inj he
      exact ⟨h, t, ht, fun i hi => by
        obtain ⟨k, hk, hne⟩ := hE.full i hi
        exact ⟨k, by omega, hne⟩, fun i h1 h2 => by omega⟩
theorem idL_len (n : Nat) : (idL n).length = n * n := by
  unfold idL
  have : ∀ (ks : List Nat) (l : List Int), (ks.foldl (fun l i => l.set (i * n + i) 1) l).length = l.length := by
    intro ks
    induction ks with
    | nil => intro l; rfl
    | cons k ks ih => intro l; simp only [List.foldl_cons]; rw [ih]; simp
  rw [this]; simp
theorem idL_num (n : Nat) : NumL (idL n) := by
  unfold idL
  have : ∀ (ks : List Nat) (l : List Int), NumL l → NumL (ks.foldl (fun l i => l.set (i * n + i) 1) l) := by
    intro ks
    induction ks with
    | nil => intro l h; exact h
    | cons k ks ih =>
      intro l h
      refine ih _ fun x hx => ?_
      rcases List.mem_or_eq_of_mem_set hx with hx | rfl
      · exact h x hx
      · omega
  refine this _ _ fun x hx => ?_
  rw [(List.mem_replicate.1 hx).2]; omega
theorem herm_spec {m : List Int} {R C : Nat} (hl : m.length = R * C) (hm : NumL m) {s : HS} (h : herm m R C = some s) : Hs C R s ∧ ∃ t, t ≤ R ∧ Ech C R s.1 C t :=
  hLoop_spec ⟨hl, idL_len R, hm, idL_num R⟩ (by omega) (Nat.zero_le _) ⟨fun i hi => by omega, fun i _ _ k hk => by omega⟩ h
end Go.Proofs.Ythlncohllbmapaa
