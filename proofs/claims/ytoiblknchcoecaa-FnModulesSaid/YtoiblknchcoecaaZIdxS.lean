/-
  The number of classes modulo the rows of a matrix, by its Smith form. Plain Lean, no program.
-/
import Derived.Test.YtoiblknchcoecaaZIdx
import Derived.Test.YtoiblknchcoecaaZSum
import Derived.Test.YtoiblknchcoecaaZSmD
import Derived.Test.YtoiblknchcoecaaZLatB
import Derived.Test.YtoiblknchcoecaaZNorm
import Derived.Test.YtoiblknchcoecaaZFacI
set_option maxHeartbeats 8000000
set_option maxRecDepth 100000
namespace Go.Proofs.Ytoiblknchcoecaa
theorem Ix.smith {R C : Nat} {M V : Mx} {d : Nat → Int} (hV : Uni C V) (hd : ∀ j, 0 < d j) (hS : ∀ v : Vc, Spn R C M v ↔ ∀ j, j < C → d j ∣ sm C fun i => v i * V i j) : Ix (fun _ => True) (Spn R C M) (pdN d C) := by
 obtain ⟨W, -, hW⟩ := hV
 refine Ix.via (K := fun _ => True) (L := Dv d C) (fun v j => sm C fun i => v i * V i j) Dv.lt (fun _ _ => trivial) (fun v w _ _ => ?_) (fun u _ => ?_) (Ix.dv hd C)
 ·rw [hS]
  have e : ∀ j, (sm C fun i => (v i - w i) * V i j) = (sm C fun i => v i * V i j) - sm C fun i => w i * V i j := fun j => by
   rw [Int.sub_eq_add_neg, ← sm_neg, ← sm_add]
   exact sm_congr fun i _ => by rw [Int.sub_mul, Int.sub_eq_add_neg]
  constructor
  ·intro h j hj
   have := h j hj
   rw [e] at this
   exact this
  ·intro h j hj
   rw [e]
   exact h j hj
 ·refine ⟨fun i => sm C fun k => u k * W k i, trivial, fun j hj => ?_⟩
  have e : (sm C fun i => (sm C fun k => u k * W k i) * V i j) = u j := by
   have h1 : (sm C fun i => (sm C fun k => u k * W k i) * V i j) = mm C (mm C (fun _ => u) W) V 0 j := rfl
   rw [h1, mm_assoc]
   have h2 : mm C (fun _ => u) (mm C W V) 0 j = mm C (fun _ => u) oneM 0 j := mm_congr2 fun k hk => hW k j hk hj
   rw [h2, mm_oneM hj]
  show d j ∣ u j - _
  rw [e, Int.sub_self]
  exact Int.dvd_zero _
end Go.Proofs.Ytoiblknchcoecaa

namespace Go.Proofs.Ytoiblknchcoecaa
theorem Uni.mul {R : Nat} {u v x : Mx} (h : Uni R u) (h' : Uni R v) (e : ∀ i j, i < R → j < R → x i j = mm R u v i j) : Uni R x := by
 obtain ⟨W, hw1, hw2⟩ := h
 obtain ⟨Z, hz1, hz2⟩ := h'
 refine ⟨mm R Z W, fun i j hi hj => ?_, fun i j hi hj => ?_⟩
 ·rw [mm_congr1 (A' := mm R u v) fun k hk => e i k hi hk, mm_assoc, mm_congr2 (B' := W) fun k hk => ?_]
  ·exact hw1 i j hi hj
  ·rw [← mm_assoc, mm_congr1 (A' := oneM) fun q hq => hz1 k q hk hq, oneM_mm hk]
 ·rw [mm_congr2 (B' := mm R u v) fun k hk => e k j hk hj, mm_assoc, mm_congr2 (B' := v) fun k hk => ?_]
  ·exact hz2 i j hi hj
  ·rw [← mm_assoc, mm_congr1 (A' := oneM) fun q hq => hw2 k q hk hq, oneM_mm hk]
def BothU (C R : Nat) (M : Mx) (s : SS) : Prop := ∃ U V : Mx, Uni R U ∧ Uni C V ∧ ∀ i j, i < R → j < C → cell s.1 C i j = mm C (mm R U M) V i j
theorem BothU.row {C R : Nat} {M E : Mx} {s s' : SS} (hE : Uni R E) (h : ∀ a j, a < R → j < C → cell s'.1 C a j = mm R E (cell s.1 C) a j) (hP : BothU C R M s) : BothU C R M s' := by
 obtain ⟨U, V, hU, hV, e⟩ := hP
 refine ⟨mm R E U, V, hE.mul hU fun _ _ _ _ => rfl, hV, fun i j hi hj => ?_⟩
 rw [h i j hi hj, mm_congr2 fun k hk => e k j hk hj, ← mm_assoc]
 exact mm_congr1 fun k hk => by rw [mm_assoc]
theorem BothU.col {C R : Nat} {M F : Mx} {s s' : SS} (hF : Uni C F) (h : ∀ a j, a < R → j < C → cell s'.1 C a j = mm C (cell s.1 C) F a j) (hP : BothU C R M s) : BothU C R M s' := by
 obtain ⟨U, V, hU, hV, e⟩ := hP
 refine ⟨U, mm C V F, hU, hV.mul hF fun _ _ _ _ => rfl, fun i j hi hj => ?_⟩
 rw [h i j hi hj, mm_congr1 fun k hk => e i k hi hk, mm_assoc]
theorem bothU_cl (C R t : Nat) (M : Mx) : Cl C R t (BothU C R M) where
 add s s' i p q _ hi _ hp hne hs he hP := by
  have e := (rAdd3_ss hs he).2
  have h : ∀ a j, a < R → j < C → cell s'.1 C a j = mm R (eAdd i p q) (cell s.1 C) a j := fun a j ha hj => by
   rw [e, eAdd_mm hi hp ha]; exact cell_addR hs.la hi hj
  exact hP.row ⟨eAdd i p (-q), fun a j ha _ => eAdd_inv hi hp hne ha, fun a j ha _ => by have := eAdd_inv (R := R) (t := -q) hi hp hne (j := j) ha; rwa [Int.neg_neg] at this⟩ h
 sw s i p _ hi _ hp hne hs hP := by
  have h : ∀ a j, a < R → j < C → cell (rSw3 C R i p s).1 C a j = mm R (eSw i p) (cell s.1 C) a j := fun a j ha hj => by
   rw [eSw_mm hi hp ha]; exact cell_swR hs.la hi hp hne hj
  exact hP.row ⟨eSw i p, fun a j ha _ => eSw_inv hi hp ha, fun a j ha _ => eSw_inv hi hp ha⟩ h
 neg s i _ hi hs hP := by
  have h : ∀ a j, a < R → j < C → cell (rNeg3 C R i s).1 C a j = mm R (eNeg i) (cell s.1 C) a j := fun a j ha hj => by
   rw [eNeg_mm hi ha]; exact cell_negR hs.la hi hj
  exact hP.row ⟨eNeg i, fun a j ha _ => eNeg_inv hi ha, fun a j ha _ => eNeg_inv hi ha⟩ h
 cadd s s' i p q _ hi _ hp hne hs he hP := by
  have e := (cAdd3_ss hs he).2
  have h : ∀ a j, a < R → j < C → cell s'.1 C a j = mm C (cell s.1 C) (fun k c => eAdd i p q c k) a j := fun a j ha hj => by
   rw [e, mm_tr, eAdd_mm hi hp hj]; exact cell_cAdd ha hj
  exact hP.col ⟨fun k c => eAdd i p (-q) c k, fun a j _ hj => by
   rw [mm_tr]
   have := eAdd_inv (R := C) (t := -q) hi hp hne (j := a) hj
   rw [Int.neg_neg] at this
   rw [oneM_tr]; exact this, fun a j _ hj => by
   rw [mm_tr, oneM_tr]; exact eAdd_inv hi hp hne hj⟩ h
 csw s i p _ hi _ hp hne hs hP := by
  have h : ∀ a j, a < R → j < C → cell (cSw3 C R i p s).1 C a j = mm C (cell s.1 C) (fun k c => eSw i p c k) a j := fun a j ha hj => by
   rw [mm_tr, eSw_mm hi hp hj]; exact cell_cSw ha hj
  exact hP.col ⟨fun k c => eSw i p c k, fun a j _ hj => by rw [mm_tr, oneM_tr]; exact eSw_inv hi hp hj, fun a j _ hj => by rw [mm_tr, oneM_tr]; exact eSw_inv hi hp hj⟩ h
theorem sAll_keep {C R : Nat} {P : SS → Prop} (H : ∀ t, Cl C R t P) : ∀ {n t : Nat} {s s' : SS}, t + n = min R C → Ss C R s → P s → sAll C R n t s = some s' → P s'
 | 0, t, s, s', ht, hs, hB, h => by
  obtain rfl := Option.some.inj h
  exact hB
 | n + 1, t, s, s', ht, hs, hB, h => by
  simp only [sAll] at h
  split at h
  ·obtain rfl := Option.some.inj h
   exact hB
  ·rename_i hp
   cases ha : sA C R t s with
   | none => rw [ha] at h; cases h
   | some s1 =>
    rw [ha] at h
    have hs1 := sLoop_ss (show t < R by omega) (by omega) hs (by omega) ha
    obtain ⟨b1, -⟩ := (H t).loop (by omega) (by omega) hs hB (by omega) ha
    have hB2 : P (sNeg C R t s1) := by
     unfold sNeg
     split
     ·exact (H t).neg _ _ (Nat.le_refl _) (by omega) hs1 b1
     ·exact b1
    exact sAll_keep H (by omega) (sNeg_ss hs1) hB2 h
theorem smith_uni {m : List Int} {R C : Nat} (hl : m.length = R * C) (hm : NumL m) {s : SS} (h : smith m R C = some s) : BothU C R (cell m C) s :=
 sAll_keep (fun t => bothU_cl C R t (cell m C)) (by omega) ⟨hl, idL_len R, idL_len C, hm, idL_num R, idL_num C⟩ ⟨oneM, oneM, Uni.start R, Uni.start C, fun i j hi hj => by rw [mm_oneM hj, oneM_mm hi]⟩ h
end Go.Proofs.Ytoiblknchcoecaa

namespace Go.Proofs.Ytoiblknchcoecaa
theorem spn_diag {R C : Nat} {M U V D : Mx} {d : Nat → Int} (hU : Uni R U) (hV : Uni C V) (hCR : C ≤ R) (hD : ∀ i j, i < R → j < C → D i j = mm C (mm R U M) V i j) (hd : ∀ i j, i < R → j < C → D i j = if i = j then d j else 0) (v : Vc) :
  Spn R C M v ↔ ∀ j, j < C → d j ∣ sm C fun i => v i * V i j := by
 obtain ⟨Ui, u1, u2⟩ := hU
 obtain ⟨Vi, v1, v2⟩ := hV
 constructor
 ·rintro ⟨a, ha⟩ j hj
  refine ⟨mm R (fun _ => a) Ui 0 j, ?_⟩
  have e1 : (sm C fun i => v i * V i j) = mm C (mm R (fun _ => a) M) V 0 j := sm_congr fun i hi => by rw [ha i hi]; rfl
  have e2 : mm R (fun _ => a) M 0 j = mm R (fun _ => a) M 0 j := rfl
  have e3 : mm C (mm R (fun _ => a) M) V 0 j = mm R (mm R (fun _ => a) Ui) D 0 j := by
   rw [mm_congr2 (B := D) (B' := mm C (mm R U M) V) fun k hk => hD k j hk hj, mm_assoc (n := R) (m := C) (A := fun _ => a), mm_assoc]
   refine mm_congr2 fun k hk => ?_
   rw [← mm_assoc]
   refine (mm_congr1 fun q hq => ?_)
   rw [← mm_assoc, mm_congr1 (A' := oneM) fun p hp => u2 k p hk hp, oneM_mm hk]
  rw [e1, e3]
  show sm R (fun i => mm R (fun _ => a) Ui 0 i * D i j) = _
  rw [sm_one (c := j) (by omega) fun i hi hne => by rw [hd i j hi hj, if_neg hne, Int.mul_zero], hd j j (by omega) hj, if_pos rfl, Int.mul_comm]
 ·intro h
  let b : Nat → Int := fun j => if hj : j < C then (h j hj).choose else 0
  have hb : ∀ j, j < C → (sm C fun i => v i * V i j) = d j * b j := fun j hj => by
   have := (h j hj).choose_spec
   simp only [b, dif_pos hj]
   exact this
  refine ⟨fun i => mm R (fun _ => b) U 0 i, fun j hj => ?_⟩
  have e1 : ∀ k, k < C → mm R (fun _ => b) D 0 k = mm C (fun _ => v) V 0 k := fun k hk => by
   show sm R (fun i => b i * D i k) = sm C fun i => v i * V i k
   rw [hb k hk, sm_one (c := k) (by omega) fun i hi hne => by rw [hd i k hi hk, if_neg hne, Int.mul_zero], hd k k (by omega) hk, if_pos rfl, Int.mul_comm]
  have e2 : mm C (mm R (fun _ => b) D) Vi 0 j = v j := by
   rw [mm_congr1 fun k hk => e1 k hk, mm_assoc, mm_congr2 (B' := oneM) fun k hk => v1 k j hk hj, mm_oneM hj]
  have e3 : mm C (mm R (fun _ => b) D) Vi 0 j = mm R (mm R (fun _ => b) U) M 0 j := by
   rw [mm_assoc, mm_assoc]
   refine mm_congr2 fun k hk => ?_
   rw [mm_congr1 (A' := mm C (mm R U M) V) fun q hq => hD k q hk hq, mm_assoc, mm_congr2 (B' := oneM) fun q hq => v1 q j hq hj, mm_oneM hj]
  rw [← e2, e3]
  rfl
theorem fac_uni {m : Mat} (h : facOk m = true) : ∃ (R C : Nat) (U V : Mx), m.rows = (R : Int) ∧ m.cols = (C : Int) ∧ (facB m).length ≤ min R C ∧ (∀ i, i < (facB m).length → 0 < dS (facB m) i) ∧ Uni R U ∧ Uni C V ∧ ∀ i j, i < R → j < C → Dg (dS (facB m)) i j = mm C (mm R U (cell m.cells C)) V i j := by
 cases hB : isMatB m with
 | false => rw [(fac_none (facR_no hB)).1] at h; cases h
 | true =>
  obtain ⟨R, C, hmr, hmc, hR, hC, hl, hnum⟩ := isMatB_shape hB
  obtain ⟨mr, mc, cells⟩ := m
  simp only at hmr hmc hl hnum
  subst hmr
  subst hmc
  cases hs : smith cells R C with
  | none =>
   have := facR_mat hB
   rw [hs] at this
   rw [(fac_none this).1] at h; cases h
  | some s =>
   have h1 := facR_mat hB
   rw [hs] at h1
   have h2 : facB { rows := (R : Int), cols := (C : Int), cells := cells } = facP s.1 C (min R C) := (fac_some h1).2
   obtain ⟨-, k, hk, hD, hz⟩ := smith_diag hl hnum hs
   obtain ⟨U, V, hU, hV, he⟩ := smith_uni hl hnum hs
   have h3 : facP s.1 C (min R C) = (List.range k).map fun i => cell s.1 C i i := facP_eq hk (fun i hi => by have := hD.pos i hi; omega) fun i hi hi' => hz i i hi (by omega) hi (by omega)
   rw [h2, h3]
   have hd : ∀ i, dS ((List.range k).map fun i => cell s.1 C i i) i = if i < k then cell s.1 C i i else 0 := fun i => by
    unfold dS
    rw [List.getD_eq_getElem?_getD, List.getElem?_map]
    by_cases e : i < k
    ·rw [if_pos e, List.getElem?_range e]; rfl
    ·rw [if_neg e, List.getElem?_eq_none (by simp; omega)]; rfl
   have hdg : ∀ i j, i < R → j < C → Dg (dS ((List.range k).map fun i => cell s.1 C i i)) i j = cell s.1 C i j := fun i j hi hj => by
    by_cases e : i = j
    ·subst e
     rw [Dg_self, hd]
     by_cases e2 : i < k
     ·rw [if_pos e2]
     ·rw [if_neg e2, hz i i (by omega) hi (by omega) hj]
    ·rw [Dg_ne e]
     by_cases e2 : i < k ∨ j < k
     ·rw [hD.zs i j hi hj e e2]
     ·rw [hz i j (by omega) hi (by omega) hj]
   refine ⟨R, C, U, V, rfl, rfl, by simpa using hk, fun i hi => ?_, hU, hV, fun i j hi hj => by rw [hdg i j hi hj, he i j hi hj]⟩
   have hi : i < k := by simpa using hi
   rw [hd, if_pos hi]; exact hD.pos i hi
def dF (L : List Int) : Nat → Int := fun j => if j < L.length then dS L j else 1
theorem ix_fac {m : Mat} (h : facOk m = true) {C : Nat} (hc : m.cols = (C : Int)) (hL : (facB m).length = C) : ∃ R : Nat, m.rows = (R : Int) ∧ Ix (fun _ => True) (Spn R C (cell m.cells C)) (pdN (dF (facB m)) C) := by
 obtain ⟨R, C', U, V, hr, hc', hle, hpos, hU, hV, hD⟩ := fac_uni h
 obtain rfl : C' = C := by omega
 have hd : ∀ j, 0 < dF (facB m) j := fun j => by
  unfold dF
  split
  ·rename_i hj; exact hpos j hj
  ·decide
 refine ⟨R, hr, Ix.smith hV hd (spn_diag hU hV (by omega) hD fun i j hi hj => ?_)⟩
 unfold Dg dF
 by_cases e : i = j
 ·subst e
  rw [if_pos rfl, if_pos rfl, if_pos (by omega)]
 ·rw [if_neg e, if_neg e]
end Go.Proofs.Ytoiblknchcoecaa

namespace Go.Proofs.Ytoiblknchcoecaa
theorem Spn.lt {R C : Nat} {M : Mx} : Lt (Spn R C M) :=
 ⟨Spn.zero fun _ _ => rfl, fun v w hv hw => hv.comb hw 1 1 fun j _ => by simp, fun v hv => hv.comb hv (-1) 0 fun j _ => by simp⟩
end Go.Proofs.Ytoiblknchcoecaa

namespace Go.Proofs.Ytoiblknchcoecaa
def EchT (C R : Nat) (m : List Int) (j t : Nat) : Prop := ∀ i, i < t → ∃ k, k < j ∧ 0 < cell m C i k ∧ (∀ k', k' < k → cell m C i k' = 0) ∧ ∀ i', i < i' → i' < R → ∀ k', k' ≤ k → cell m C i' k' = 0
theorem EchT.keep {C R j t : Nat} {m m' : List Int} (h : EchT C R m j t) (hj : j ≤ C) (h1 : ∀ i k, k < C → i < t → cell m' C i k = cell m C i k) (h2 : ∀ i, t ≤ i → i < R → ∀ k, k < j → cell m' C i k = 0) : EchT C R m' j t := fun i hi => by
 obtain ⟨k, q1, q2, q3, q4⟩ := h i hi
 refine ⟨k, q1, by rw [h1 i k (by omega) hi]; exact q2, fun k' hk' => by rw [h1 i k' (by omega) hi]; exact q3 k' hk', fun i' h3 h4 k' hk' => ?_⟩
 by_cases e : i' < t
 ·rw [h1 i' k' (by omega) e]; exact q4 i' h3 h4 k' hk'
 ·exact h2 i' (by omega) h4 k' (by omega)
theorem colE_echT {C R j t p : Nat} (hj : j < C) (ht : t < R) {s s' : HS} (h : Hs C R s) (hv : Piv s.1 C R j p t) (ha : aloneB s.1 C R j p t = true) (hE : Ech C R s.1 j t) (hP : EchT C R s.1 j t) (he : colE C R j t p s = some s') : EchT C R s'.1 (j + 1) (t + 1) := by
 have hspec := (colE_spec hj ht h hv ha hE he).2
 unfold colE at he
 have hal := aloneB_iff.1 ha
 obtain ⟨h1, f1, z1, n1⟩ : Hs C R (top2 C R p t s) ∧ (∀ i k, k < C → i < t → cell (top2 C R p t s).1 C i k = cell s.1 C i k) ∧ (∀ i, t ≤ i → i < R → ∀ k, k < j → cell (top2 C R p t s).1 C i k = 0) ∧ cell (top2 C R p t s).1 C t j ≠ 0 := by
  unfold top2
  by_cases e : p = t
  ·rw [if_pos e]; subst e
   exact ⟨h, fun _ _ _ _ => rfl, hE.zero, hv.ne⟩
  ·rw [if_neg e]
   have hc : ∀ i k, k < C → cell (sw2 C R p t s).1 C i k = if i = p then cell s.1 C t k else if i = t then cell s.1 C p k else cell s.1 C i k := fun i k hk => cell_swR h.la hv.hi ht e hk
   have hlo := hv.lo
   have hhi := hv.hi
   refine ⟨sw2_hs h, fun i k hk hi => by rw [hc i k hk, if_neg (by omega), if_neg (by omega)], fun i h1 h2 k hk => ?_, ?_⟩
   ·rw [hc i k (by omega)]
    split
    ·exact hE.zero t (Nat.le_refl _) ht k hk
    ·split
     ·exact hE.zero p hlo hhi k hk
     ·exact hE.zero i h1 h2 k hk
   ·rw [hc t j hj, if_neg (by omega), if_pos rfl]; exact hv.ne
 obtain ⟨h2, f2, z2, n2⟩ : Hs C R (pos2 C R j t (top2 C R p t s)) ∧ (∀ i k, k < C → i < t → cell (pos2 C R j t (top2 C R p t s)).1 C i k = cell s.1 C i k) ∧ (∀ i, t ≤ i → i < R → ∀ k, k < j → cell (pos2 C R j t (top2 C R p t s)).1 C i k = 0) ∧ 0 < cell (pos2 C R j t (top2 C R p t s)).1 C t j := by
  unfold pos2
  split
  ·have hc : ∀ i k, k < C → cell (neg2 C R t (top2 C R p t s)).1 C i k = if i = t then -cell (top2 C R p t s).1 C t k else cell (top2 C R p t s).1 C i k := fun i k hk => cell_negR h1.la ht hk
   refine ⟨neg2_hs h1, fun i k hk hi => by rw [hc i k hk, if_neg (by omega)]; exact f1 i k hk hi, fun i h3 h4 k hk => ?_, ?_⟩
   ·rw [hc i k (by omega)]
    split
    ·rw [z1 t (Nat.le_refl _) ht k hk]; rfl
    ·exact z1 i h3 h4 k hk
   ·rw [hc t j hj, if_pos rfl]; omega
  ·exact ⟨h1, f1, z1, by omega⟩
 obtain ⟨g1, g2, g3⟩ := red_spec hj ht h2 (by omega) he
 intro i hi
 by_cases e : i = t
 ·subst e
  refine ⟨j, by omega, by rw [g2 i j hj (Nat.le_refl _)]; exact n2, fun k' hk' => by rw [g2 i k' (by omega) (Nat.le_refl _)]; exact z2 i (Nat.le_refl _) ht k' hk', fun i' h3 h4 k' hk' => hspec.zero i' (by omega) h4 k' (by omega)⟩
 ·have hun : ∀ k, k < j → cell s'.1 C i k = cell s.1 C i k := fun k hk => by rw [g3 i k (by omega) (z2 t (Nat.le_refl _) ht k hk), f2 i k (by omega) (by omega)]
  obtain ⟨k, q1, q2, q3, q4⟩ := hP i (by omega)
  refine ⟨k, by omega, by rw [hun k q1]; exact q2, fun k' hk' => by rw [hun k' (by omega)]; exact q3 k' hk', fun i' h3 h4 k' hk' => ?_⟩
  by_cases e2 : i' < t
  ·rw [g3 i' k' (by omega) (z2 t (Nat.le_refl _) ht k' (by omega)), f2 i' k' (by omega) e2]; exact q4 i' h3 h4 k' hk'
  ·rw [g2 i' k' (by omega) (by omega)]; exact z2 i' (by omega) h4 k' (by omega)
theorem hLoop_echT {C R : Nat} : ∀ {n j t : Nat} {s s' : HS}, Hs C R s → j + n = C → t ≤ R → Ech C R s.1 j t → EchT C R s.1 j t → hLoop C R n j t s = some s' → ∃ t', t' ≤ R ∧ Ech C R s'.1 C t' ∧ EchT C R s'.1 C t'
 | 0, j, t, s, s', h, hj, ht, hE, hP, he => by
  obtain rfl := Option.some.inj he
  obtain rfl : j = C := by omega
  exact ⟨t, ht, hE, hP⟩
 | n + 1, j, t, s, s', h, hj, ht, hE, hP, he => by
  have hup : ∀ {m : List Int} {t : Nat}, EchT C R m j t → EchT C R m (j + 1) t := fun h i hi => by
   obtain ⟨k, q1, q⟩ := h i hi
   exact ⟨k, by omega, q⟩
  simp only [hLoop] at he
  by_cases hlt : t < R
  ·rw [if_pos hlt] at he
   by_cases hl : leastN s.1 C j t (R - t) < 0
   ·rw [if_pos hl] at he
    refine hLoop_echT h (by omega) ht ⟨fun i hi => ?_, fun i h1 h2 k hk => ?_⟩ (hup hP) he
    ·obtain ⟨k, hk, hne⟩ := hE.full i hi
     exact ⟨k, by omega, hne⟩
    ·by_cases e : k = j
     ·subst e
      rcases leastN_spec s.1 C k t (R - t) with ⟨_, h3⟩ | ⟨p, h3, _⟩
      ·have := h3 (i - t) (by omega)
       rwa [show t + (i - t) = i by omega] at this
      ·omega
     ·exact hE.zero i h1 h2 k (by omega)
   ·rw [if_neg hl] at he
    have hv := Piv.of (m := s.1) (C := C) (R := R) (j := j) (t := t) ht (by omega)
    cases hg : gcdA C R j t s (leastN s.1 C j t (R - t)).toNat with
    | none => rw [hg] at he; cases he
    | some r =>
     rw [hg] at he
     obtain ⟨s1, p1⟩ := r
     obtain ⟨g1, g2, g3, g4, g5⟩ := gcdL_spec (by omega) h hv hg
     have hz1 : ∀ i, t ≤ i → i < R → ∀ k, k < j → cell s1.1 C i k = 0 := fun i h1 h2 k hk => g5 k (by omega) (fun i' h3 h4 => hE.zero i' h3 h4 k hk) i h1 h2
     have hE1 : Ech C R s1.1 j t := ⟨fun i hi => by
      obtain ⟨k, hk, hne⟩ := hE.full i hi
      exact ⟨k, hk, by rw [g4 i k (by omega) hi]; exact hne⟩, hz1⟩
     have hP1 : EchT C R s1.1 j t := hP.keep (by omega) (fun i k hk hi => g4 i k hk hi) hz1
     cases hc : colE C R j t p1 s1 with
     | none => simp only [Option.bind_some, hc] at he; cases he
     | some s2 =>
      simp only [Option.bind_some, hc] at he
      obtain ⟨q1, q2⟩ := colE_spec (by omega) hlt g1 g2 g3 hE1 hc
      exact hLoop_echT q1 (by omega) (by omega) q2 (colE_echT (by omega) hlt g1 g2 g3 hE1 hP1 hc) he
  ·rw [if_neg hlt] at he
   obtain rfl := Option.some.inj he
   refine ⟨t, ht, ⟨fun i hi => ?_, fun i h1 h2 => by omega⟩, fun i hi => ?_⟩
   ·obtain ⟨k, hk, hne⟩ := hE.full i hi
    exact ⟨k, by omega, hne⟩
   ·obtain ⟨k, q1, q⟩ := hP i hi
    exact ⟨k, by omega, q⟩
theorem bas_tri {m : Mat} {C : Nat} {b : List Int} (hb : Bas m C C b) (h : basOk m = true) : ∀ i, i < C → 0 < cell b C i i ∧ (∀ k, k < i → cell b C i k = 0) ∧ fz (rowL b C i) = i := by
 cases hB : isMatB m with
 | false =>
  have := (basB_none (m := m) (by unfold hermR; rw [hB]; rfl)).1
  rw [this] at h; cases h
 | true =>
  obtain ⟨R, C', hmr, hmc, hR, hC, hl, hnum⟩ := isMatB_shape hB
  have hcols := hb.cols
  obtain rfl : C' = C := by omega
  obtain ⟨mr, mc, cells⟩ := m
  simp only at hmr hmc hl hnum
  subst hmr
  subst hmc
  cases hh : herm cells R C' with
  | none =>
   have := (basB_none (m := { rows := (R : Int), cols := (C' : Int), cells := cells }) (by rw [hermR_mat hB]; exact hh)).1
   rw [this] at h; cases h
  | some s =>
   obtain ⟨hs, -⟩ := herm_spec hl hnum hh
   obtain ⟨t, ht, hE, hP⟩ := hLoop_echT (s := (cells, idL R)) ⟨hl, idL_len R, hnum, idL_num R⟩ (by omega) (Nat.zero_le _) ⟨fun i hi => by omega, fun i _ _ k hk => by omega⟩ (fun i hi => by omega) hh
   have e := ech_last hE R (Nat.le_refl _) ht
   have heq := hb.eq
   rw [(basB_some hB hh).2, e] at heq
   obtain ⟨e1, e2⟩ : t = C' ∧ s.1.take (t * C') = b := by
    have h1 := congrArg Mat.rows heq
    have h2 := congrArg Mat.cells heq
    exact ⟨by simp only at h1; omega, by simpa using h2⟩
   have hcb : ∀ i k, i < t → k < C' → cell b C' i k = cell s.1 C' i k := fun i k h1 h2 => by rw [← e2]; exact cell_take h1 h2
   have key : ∀ i, i < t → ∀ k, (0 < cell s.1 C' i k ∧ (∀ k', k' < k → cell s.1 C' i k' = 0)) → i ≤ k := by
    intro i
    induction i with
    | zero => intro _ k _; omega
    | succ i ih =>
     intro hi k ⟨h1, h2⟩
     obtain ⟨q, q1, q2, q3, q4⟩ := hP i (by omega)
     have h3 := ih (by omega) q ⟨q2, q3⟩
     have h4 : ¬ k ≤ q := fun hkq => by have := q4 (i + 1) (by omega) (by omega) k hkq; omega
     omega
   have key2 : ∀ n i, i + n + 1 = t → ∀ k, k < C' → (0 < cell s.1 C' i k ∧ (∀ k', k' < k → cell s.1 C' i k' = 0)) → k ≤ i := by
    intro n
    induction n with
    | zero => intro i hi k hk _; omega
    | succ n ih =>
     intro i hi k hk ⟨h1, h2⟩
     obtain ⟨q, q1, q2, q3, q4⟩ := hP i (by omega)
     obtain ⟨p, p1, p2, p3, p4⟩ := hP (i + 1) (by omega)
     have h3 := ih (i + 1) (by omega) p p1 ⟨p2, p3⟩
     have h4 : ¬ p ≤ q := fun hkq => by have := q4 (i + 1) (by omega) (by omega) p hkq; omega
     have h5 : ¬ q < k := fun hq => by have := h2 q hq; omega
     omega
   intro i hi
   obtain ⟨k, q1, q2, q3, q4⟩ := hP i (by omega)
   obtain rfl : k = i := Nat.le_antisymm (key2 (t - i - 1) i (by omega) k q1 ⟨q2, q3⟩) (key i (by omega) k ⟨q2, q3⟩)
   have hbl : b.length = C' * C' := hb.len
   refine ⟨by rw [hcb k k (by omega) q1]; exact q2, fun k' hk' => by rw [hcb k k' (by omega) (by omega)]; exact q3 k' hk', ?_⟩
   exact fz_eq (x := cell b C' k k) (rowL_at hbl hi q1) (by rw [hcb k k (by omega) q1]; omega) (rowL_take hbl hi (fun k' hk' => by rw [hcb k k' (by omega) (by omega)]; exact q3 k' hk') (by omega))
end Go.Proofs.Ytoiblknchcoecaa

namespace Go.Proofs.Ytoiblknchcoecaa
theorem tri_ind {b : Mx} {n : Nat} (hz : ∀ i, i < n → ∀ k, k < i → b i k = 0) (hd : ∀ i, i < n → 0 < b i i) : Ind n n b := by
 intro a ha i
 induction i using Nat.strongRecOn with
 | _ i ih =>
  intro hi
  have h := ha i hi
  rw [sm_one (c := i) hi fun q hq hne => by
   by_cases e : q < i
   ·rw [ih q e hq, Int.zero_mul]
   ·rw [hz q hq i (by omega), Int.mul_zero]] at h
  rcases Int.mul_eq_zero.1 h with h1 | h1
  ·exact h1
  ·have := hd i hi; omega
theorem Ix.tri_one {b : Mx} {n : Nat} (hz : ∀ i, i < n + 1 → ∀ k, k < i → b i k = 0) (hd : ∀ i, i < n + 1 → 0 < b i i) : Ix (Spn n n b) (Spn (n + 1) (n + 1) b) (b n n).toNat := by
 have hdn := hd n (by omega)
 refine ⟨fun i j => if j = n then (i : Int) else 0, fun i _ => Spn.zero fun j hj => if_neg (by omega), fun v hv => ?_, fun i k hi hk e => ?_⟩
 ·obtain ⟨a, ha⟩ := hv
  have h0 := Int.emod_nonneg (v n - sm n fun i => a i * b i n) (show b n n ≠ 0 by omega)
  have h1 := Int.emod_lt_of_pos (v n - sm n fun i => a i * b i n) hdn
  refine ⟨((v n - sm n fun i => a i * b i n) % b n n).toNat, by omega, fun i => if i < n then a i else (v n - sm n fun i => a i * b i n) / b n n, fun j hj => ?_⟩
  have e1 : (sm (n + 1) fun i => (if i < n then a i else (v n - sm n fun i => a i * b i n) / b n n) * b i j) = (sm n fun i => a i * b i j) + (v n - sm n fun i => a i * b i n) / b n n * b n j := by
   simp only [sm]
   rw [if_neg (by omega), sm_congr (g := fun i => a i * b i j) fun i hi => by rw [if_pos hi]]
  rw [e1]
  show v j - (if j = n then ((((v n - sm n fun i => a i * b i n) % b n n).toNat : Nat) : Int) else 0) = _
  by_cases e : j = n
  ·subst e
   rw [if_pos rfl, Int.toNat_of_nonneg h0]
   have := Int.emod_add_mul_ediv (v j - sm j fun i => a i * b i j) (b j j)
   rw [Int.mul_comm (b j j)] at this
   omega
  ·rw [if_neg e, hz n (by omega) j (by omega), Int.mul_zero, Int.sub_zero, Int.add_zero, ← ha j (by omega)]
 ·obtain ⟨a, ha⟩ := e
  have h1 : ∀ i, i < n → a i = 0 := tri_ind (fun i hi => hz i (by omega)) (fun i hi => hd i (by omega)) a fun j hj => by
   have h2 := ha j (by omega)
   simp only [sm] at h2
   rw [if_neg (by omega), if_neg (by omega), hz n (by omega) j hj, Int.mul_zero] at h2
   omega
  have h2 := ha n (by omega)
  simp only [sm, if_true] at h2
  rw [sm_zero fun i hi => by rw [h1 i hi, Int.zero_mul]] at h2
  have h3 : (i : Int) % b n n = (k : Int) % b n n := Int.emod_eq_emod_iff_emod_sub_eq_zero.2 (Int.emod_eq_zero_of_dvd ⟨a n, by rw [Int.mul_comm]; omega⟩)
  rw [Int.emod_eq_of_lt (by omega) (by omega), Int.emod_eq_of_lt (by omega) (by omega)] at h3
  omega
theorem Ix.tri {b : Mx} : ∀ n, (∀ i, i < n → ∀ k, k < i → b i k = 0) → (∀ i, i < n → 0 < b i i) → Ix (fun _ => True) (Spn n n b) (pdN (fun i => b i i) n)
 | 0, _, _ => ⟨fun _ _ => 0, fun _ _ => trivial, fun v _ => ⟨0, Nat.one_pos, Spn.zero fun j hj => by omega⟩, fun i k hi hk _ => by simp only [pdN] at hi hk; omega⟩
 | n + 1, hz, hd => Ix.tower Spn.lt (fun v ⟨a, ha⟩ => ⟨a, fun j hj => by
   rw [ha j (by omega)]
   simp only [sm]
   rw [hz n (by omega) j hj, Int.mul_zero, Int.add_zero]⟩) (fun _ _ => trivial) ⟨trivial, fun _ _ _ _ => trivial, fun _ _ => trivial⟩ (Ix.tri n (fun i hi => hz i (by omega)) fun i hi => hd i (by omega)) (Ix.tri_one hz hd)
theorem Ix.congr {K L L' : Vc → Prop} {N : Nat} (h : Ix K L N) (e : ∀ v, L v ↔ L' v) : Ix K L' N := by
 obtain rfl : L = L' := funext fun v => propext (e v)
 exact h
theorem bas_spn {m : Mat} {C N : Nat} {b : List Int} (hb : Bas m C N b) (h : basOk m = true) : ∃ R : Nat, m.rows = (R : Int) ∧ ∀ v, Spn R C (cell m.cells C) v ↔ Spn N C (cell b C) v := by
 obtain ⟨R, hr, -, h1, h2⟩ := bas_rows hb h
 exact ⟨R, hr, fun v => ⟨fun hv => hv.of_rwf h2, fun hv => hv.of_rwf h1⟩⟩
theorem tri_fac {m : Mat} {C : Nat} {b : List Int} (hb : Bas m C C b) (h : basOk m = true) (hf : facOk m = true) (hL : (facB m).length = C) : pdN (fun i => cell b C i i) C = pdN (dF (facB m)) C := by
 obtain ⟨R, hr, hs⟩ := bas_spn hb h
 obtain ⟨R', hr', hI⟩ := ix_fac hf hb.cols hL
 obtain rfl : R' = R := by omega
 have ht := bas_tri hb h
 exact Ix.same Spn.lt (Ix.tri C (fun i hi => (ht i hi).2.1) fun i hi => (ht i hi).1) (hI.congr hs)
theorem bas_fac {m : Mat} {C N : Nat} {b : List Int} (hb : Bas m C N b) (h : basOk m = true) (hf : facOk m = true) : N = (facB m).length := by
 obtain ⟨R, hr, -, h1, h2⟩ := bas_rows hb h
 obtain ⟨R', C', hF⟩ := fac_of hf
 obtain rfl : R' = R := by have := hF.rows; omega
 obtain rfl : C' = C := by have := hF.cols; have := hb.cols; omega
 exact ind_fac (bas_ind hb h) hF h1.fct h2.fct
theorem fac_last {m : Mat} {C : Nat} (hf : facOk m = true) (hc : m.cols = (C : Int)) (hL : (facB m).length = C) {e : Int} (he : ∀ j, j < C → dS (facB m) j ∣ e) : ∃ R : Nat, m.rows = (R : Int) ∧ ∀ x : Vc, Spn R C (cell m.cells C) fun j => e * x j := by
 obtain ⟨R, C', U, V, hr, hc', hle, hpos, hU, hV, hD⟩ := fac_uni hf
 obtain rfl : C' = C := by omega
 refine ⟨R, hr, fun x => (spn_diag (d := dS (facB m)) hU hV (by omega) hD (fun i j hi hj => by
  by_cases e : i = j
  ·subst e; rw [Dg_self, if_pos rfl]
  ·rw [Dg_ne e, if_neg e]) _).2 fun j hj => ?_⟩
 have h1 : (sm C' fun i => e * x i * V i j) = e * sm C' fun i => x i * V i j := by
  rw [← sm_mul]
  exact sm_congr fun i _ => Int.mul_assoc _ _ _
 rw [h1]
 exact Int.dvd_trans (he j hj) (Int.dvd_mul_right _ _)
end Go.Proofs.Ytoiblknchcoecaa

namespace Go.Proofs.Ytoiblknchcoecaa
theorem le_mulr {a b : Int} (ha : 0 ≤ a) (hb : 1 ≤ b) : a ≤ a * b := by
 have := Int.mul_le_mul_of_nonneg_left hb ha
 rwa [Int.mul_one] at this
def prd (l : List Int) : Int := l.foldl (· * ·) 1
theorem prd_snoc (l : List Int) (x : Int) : prd (l ++ [x]) = prd l * x := by unfold prd; rw [List.foldl_append]; rfl
theorem prd_take {l : List Int} (h : ∀ x ∈ l, 1 ≤ x) : ∀ k, 1 ≤ prd (l.take k) ∧ prd (l.take k) ≤ prd (l.take (k + 1)) := by
 intro k
 induction k with
 | zero =>
  refine ⟨by simp [prd], ?_⟩
  cases l with
  | nil => simp [prd]
  | cons x r => have := h x (List.mem_cons_self ..); simp [prd]; omega
 | succ k ih =>
  have h1 : 1 ≤ prd (l.take (k + 1)) := by omega
  refine ⟨h1, ?_⟩
  cases hx : l[k + 1]? with
  | none =>
   have : l.length ≤ k + 1 := List.getElem?_eq_none_iff.1 hx
   rw [List.take_of_length_le this, List.take_of_length_le (by omega)]
   exact Int.le_refl _
  | some x =>
   rw [take_succ hx, prd_snoc]
   have h2 := h x (List.mem_of_getElem? hx)
   exact le_mulr (by omega) h2
theorem prd_le {l : List Int} (h : ∀ x ∈ l, 1 ≤ x) (k : Nat) : prd (l.take k) ≤ prd l := by
 have key : ∀ n, prd (l.take k) ≤ prd (l.take (k + n)) := by
  intro n
  induction n with
  | zero => exact Int.le_refl _
  | succ n ih => exact Int.le_trans ih (prd_take h (k + n)).2
 have := key l.length
 rwa [List.take_of_length_le (show l.length ≤ k + l.length by omega)] at this
theorem gt1_mem {L : List Int} {x : Int} (h : x ∈ gt1 L) : x ∈ L ∧ 1 < x := by
 unfold gt1 at h
 rw [List.mem_filter, decide_eq_true_eq] at h
 exact h
theorem dS_at {L : List Int} {i : Nat} {x : Int} (h : L[i]? = some x) : dS L i = x := by
 unfold dS; rw [List.getD_eq_getElem?_getD, h]; rfl
theorem pdN_gt1 {L : List Int} (hp : ∀ i, i < L.length → 0 < dS L i) : ∀ k, k ≤ L.length → prd (gt1 (L.take k)) = (pdN (dF L) k : Nat)
 | 0, _ => by simp [prd, gt1, pdN]
 | k + 1, hk => by
  obtain ⟨x, hx⟩ : ∃ x, L[k]? = some x := ⟨_, List.getElem?_eq_getElem (by omega)⟩
  have h1 := hp k (by omega)
  have ih := pdN_gt1 hp k (by omega)
  rw [dS_at hx] at h1
  have e1 : dF L k = x := by unfold dF; rw [if_pos (by omega), dS_at hx]
  simp only [pdN]
  rw [e1, Int.natCast_mul, Int.toNat_of_nonneg (by omega), ← ih]
  by_cases h2 : 1 < x
  ·rw [gt1_yes hx h2, prd_snoc]
  ·rw [gt1_no hx h2]
   obtain rfl : x = 1 := by omega
   omega
theorem last_none {L : List Int} (hp : ∀ i, i < L.length → 0 < dS L i) (h : gt1 L = []) : ∀ j, j < L.length → dS L j ∣ 1 := fun j hj => by
 have h1 := hp j hj
 have hx : L[j]? = some L[j] := List.getElem?_eq_getElem hj
 rw [dS_at hx] at h1 ⊢
 have h2 : ¬ 1 < L[j] := fun hlt => by
  have : L[j] ∈ gt1 L := by unfold gt1; rw [List.mem_filter]; exact ⟨List.getElem_mem hj, by simpa using hlt⟩
  rw [h] at this; cases this
 have h3 : L[j] = 1 := by omega
 rw [h3]; exact Int.dvd_refl 1
theorem last_some {L : List Int} (hp : ∀ i, i < L.length → 0 < dS L i) (hd : ∀ i j, i ≤ j → dS L i ∣ dS L j) {y : Int} (h : (gt1 L)[(gt1 L).length - 1]? = some y) : 1 < y ∧ ∀ j, j < L.length → dS L j ∣ y := by
 obtain ⟨h1, h2⟩ := gt1_mem (List.mem_of_getElem? h)
 obtain ⟨i, hi, hiy⟩ := List.getElem_of_mem h1
 have hn : 0 < L.length := by omega
 have hx : L[L.length - 1]? = some L[L.length - 1] := List.getElem?_eq_getElem (by omega)
 have hyi : dS L i = y := by rw [← hiy]; exact dS_at (List.getElem?_eq_getElem hi)
 have h3 := hd i (L.length - 1) (by omega)
 have h4 := hp (L.length - 1) (by omega)
 have h5 : 1 < L[L.length - 1] := by
  rw [dS_at hx] at h4 h3
  rw [hyi] at h3
  have := Int.le_of_dvd h4 h3
  omega
 have h6 : gt1 L = gt1 (L.take (L.length - 1)) ++ [L[L.length - 1]] := by
  have := gt1_yes hx h5
  rw [show L.length - 1 + 1 = L.length by omega, List.take_length] at this
  exact this
 have h7 : y = L[L.length - 1] := by
  rw [h6] at h
  simp at h
  exact h.symm
 refine ⟨h2, fun j hj => ?_⟩
 have := hd j (L.length - 1) (by omega)
 rw [dS_at hx, ← h7] at this
 exact this
end Go.Proofs.Ytoiblknchcoecaa
