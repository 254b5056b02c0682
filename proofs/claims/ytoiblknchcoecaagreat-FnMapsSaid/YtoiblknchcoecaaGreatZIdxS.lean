/-
  The number of classes modulo the rows of a matrix, by its Smith form. Plain Lean, no program.
-/
import Derived.Test.YtoiblknchcoecaaGreatZIdx
import Derived.Test.YtoiblknchcoecaaGreatZSum
import Derived.Test.YtoiblknchcoecaaGreatZSmD
import Derived.Test.YtoiblknchcoecaaGreatZLatB
import Derived.Test.YtoiblknchcoecaaGreatZNorm
import Derived.Test.YtoiblknchcoecaaGreatZFacI
set_option maxHeartbeats 8000000
set_option maxRecDepth 100000
namespace Go.Proofs.YtoiblknchcoecaaGreat
theorem Ix.smith {R C : Nat} {M V : Mx} {d : Nat → Int} (hV : Uni C V) (hd : ∀ j, 0 < d j) (hS : ∀ v : Vc, Spn R C M v ↔ ∀ j, j < C → d j ∣ sm C fun i => v i * V i j) : Ix (fun _ => True) (Spn R C M) (pdN d C) := by
 obtain ⟨W, -, hW⟩ := hV
 refine Ix.via (K := fun _ => True) (L := Dv d C) (fun v j => sm C fun i => v i * V i j) Dv.lt (fun _ _ => trivial) (fun v w _ _ => ?_) (fun u _ => ?_) (Ix.dv hd C)
 ·rw [hS]
  have e : ∀ j, (sm C fun i => (v i - w i) * V i j) = (sm C fun i => v i * V i j) - sm C fun i => w i * V i j := fun j => by
   rw [Int.sub_eq_add_neg, ← sm_neg, ← sm_add]
   exact sm_congr fun i _ => by rw [Int.sub_mul, Int.sub_eq_add_neg]
  constructor
  ·intro h j hj
   have := h j hj
   rw [e] at this
   exact this
  ·intro h j hj
   rw [e]
   exact h j hj
 ·refine ⟨fun i => sm C fun k => u k * W k i, trivial, fun j hj => ?_⟩
  have e : (sm C fun i => (sm C fun k => u k * W k i) * V i j) = u j := by
   have h1 : (sm C fun i => (sm C fun k => u k * W k i) * V i j) = mm C (mm C (fun _ => u) W) V 0 j := rfl
   rw [h1, mm_assoc]
   have h2 : mm C (fun _ => u) (mm C W V) 0 j = mm C (fun _ => u) oneM 0 j := mm_congr2 fun k hk => hW k j hk hj
   rw [h2, mm_oneM hj]
  show d j ∣ u j - _
  rw [e, Int.sub_self]
  exact Int.dvd_zero _
end Go.Proofs.YtoiblknchcoecaaGreat

namespace Go.Proofs.YtoiblknchcoecaaGreat
theorem Uni.mul {R : Nat} {u v x : Mx} (h : Uni R u) (h' : Uni R v) (e : ∀ i j, i < R → j < R → x i j = mm R u v i j) : Uni R x := by
 obtain ⟨W, hw1, hw2⟩ := h
 obtain ⟨Z, hz1, hz2⟩ := h'
 refine ⟨mm R Z W, fun i j hi hj => ?_, fun i j hi hj => ?_⟩
 ·rw [mm_congr1 (A' := mm R u v) fun k hk => e i k hi hk, mm_assoc, mm_congr2 (B' := W) fun k hk => ?_]
  ·exact hw1 i j hi hj
  ·rw [← mm_assoc, mm_congr1 (A' := oneM) fun q hq => hz1 k q hk hq, oneM_mm hk]
 ·rw [mm_congr2 (B' := mm R u v) fun k hk => e k j hk hj, mm_assoc, mm_congr2 (B' := v) fun k hk => ?_]
  ·exact hz2 i j hi hj
  ·rw [← mm_assoc, mm_congr1 (A' := oneM) fun q hq => hw2 k q hk hq, oneM_mm hk]
def BothU (C R : Nat) (M : Mx) (s : SS) : Prop := ∃ U V : Mx, Uni R U ∧ Uni C V ∧ ∀ i j, i < R → j < C → cell s.1 C i j = mm C (mm R U M) V i j
theorem BothU.row {C R : Nat} {M E : Mx} {s s' : SS} (hE : Uni R E) (h : ∀ a j, a < R → j < C → cell s'.1 C a j = mm R E (cell s.1 C) a j) (hP : BothU C R M s) : BothU C R M s' := by
 obtain ⟨U, V, hU, hV, e⟩ := hP
 refine ⟨mm R E U, V, hE.mul hU fun _ _ _ _ => rfl, hV, fun i j hi hj => ?_⟩
 rw [h i j hi hj, mm_congr2 fun k hk => e k j hk hj, ← mm_assoc]
 exact mm_congr1 fun k hk => by rw [mm_assoc]
theorem BothU.col {C R : Nat} {M F : Mx} {s s' : SS} (hF : Uni C F) (h : ∀ a j, a < R → j < C → cell s'.1 C a j = mm C (cell s.1 C) F a j) (hP : BothU C R M s) : BothU C R M s' := by
 obtain ⟨U, V, hU, hV, e⟩ := hP
 refine ⟨U, mm C V F, hU, hV.mul hF fun _ _ _ _ => rfl, fun i j hi hj => ?_⟩
 rw [h i j hi hj, mm_congr1 fun k hk => e i k hi hk, mm_assoc]
theorem bothU_cl (C R t : Nat) (M : Mx) : Cl C R t (BothU C R M) where
 add s s' i p q _ hi _ hp hne hs he hP := by
  have e := (rAdd3_ss hs he).2
  have h : ∀ a j, a < R → j < C → cell s'.1 C a j = mm R (eAdd i p q) (cell s.1 C) a j := fun a j ha hj => by
   rw [e, eAdd_mm hi hp ha]; exact cell_addR hs.la hi hj
  exact hP.row ⟨eAdd i p (-q), fun a j ha _ => eAdd_inv hi hp hne ha, fun a j ha _ => by have := eAdd_inv (R := R) (t := -q) hi hp hne (j := j) ha; rwa [Int.neg_neg] at this⟩ h
 sw s i p _ hi _ hp hne hs hP := by
  have h : ∀ a j, a < R → j < C → cell (rSw3 C R i p s).1 C a j = mm R (eSw i p) (cell s.1 C) a j := fun a j ha hj => by
   rw [eSw_mm hi hp ha]; exact cell_swR hs.la hi hp hne hj
  exact hP.row ⟨eSw i p, fun a j ha _ => eSw_inv hi hp ha, fun a j ha _ => eSw_inv hi hp ha⟩ h
 neg s i _ hi hs hP := by
  have h : ∀ a j, a < R → j < C → cell (rNeg3 C R i s).1 C a j = mm R (eNeg i) (cell s.1 C) a j := fun a j ha hj => by
   rw [eNeg_mm hi ha]; exact cell_negR hs.la hi hj
  exact hP.row ⟨eNeg i, fun a j ha _ => eNeg_inv hi ha, fun a j ha _ => eNeg_inv hi ha⟩ h
 cadd s s' i p q _ hi _ hp hne hs he hP := by
  have e := (cAdd3_ss hs he).2
  have h : ∀ a j, a < R → j < C → cell s'.1 C a j = mm C (cell s.1 C) (fun k c => eAdd i p q c k) a j := fun a j ha hj => by
   rw [e, mm_tr, eAdd_mm hi hp hj]; exact cell_cAdd ha hj
  exact hP.col ⟨fun k c => eAdd i p (-q) c k, fun a j _ hj => by
   rw [mm_tr]
   have := eAdd_inv (R := C) (t := -q) hi hp hne (j := a) hj
   rw [Int.neg_neg] at this
   rw [oneM_tr]; exact this, fun a j _ hj => by
   rw [mm_tr, oneM_tr]; exact eAdd_inv hi hp hne hj⟩ h
 csw s i p _ hi _ hp hne hs hP := by
  have h : ∀ a j, a < R → j < C → cell (cSw3 C R i p s).1 C a j = mm C (cell s.1 C) (fun k c => eSw i p c k) a j := fun a j ha hj => by
   rw [mm_tr, eSw_mm hi hp hj]; exact cell_cSw ha hj
  exact hP.col ⟨fun k c => eSw i p c k, fun a j _ hj => by rw [mm_tr, oneM_tr]; exact eSw_inv hi hp hj, fun a j _ hj => by rw [mm_tr, oneM_tr]; exact eSw_inv hi hp hj⟩ h
theorem sAll_keep {C R : Nat} {P : SS → Prop} (H : ∀ t, Cl C R t P) : ∀ {n t : Nat} {s s' : SS}, t + n = min R C → Ss C R s → P s → sAll C R n t s = some s' → P s'
 | 0, t, s, s', ht, hs, hB, h => by
  obtain rfl := Option.some.inj h
  exact hB
 | n + 1, t, s, s', ht, hs, hB, h => by
  simp only [sAll] at h
  split at h
  ·obtain rfl := Option.some.inj h
   exact hB
  ·rename_i hp
   cases ha : sA C R t s with
   | none => rw [ha] at h; cases h
   | some s1 =>
    rw [ha] at h
    have hs1 := sLoop_ss (show t < R by omega) (by omega) hs (by omega) ha
    obtain ⟨b1, -⟩ := (H t).loop (by omega) (by omega) hs hB (by omega) ha
    have hB2 : P (sNeg C R t s1) := by
     unfold sNeg
     split
     ·exact (H t).neg _ _ (Nat.le_refl _) (by omega) hs1 b1
     ·exact b1
    exact sAll_keep H (by omega) (sNeg_ss hs1) hB2 h
theorem smith_uni {m : List Int} {R C : Nat} (hl : m.length = R * C) (hm : NumL m) {s : SS} (h : smith m R C = some s) : BothU C R (cell m C) s :=
 sAll_keep (fun t => bothU_cl C R t (cell m C)) (by omega) ⟨hl, idL_len R, idL_len C, hm, idL_num R, idL_num C⟩ ⟨oneM, oneM, Uni.start R, Uni.start C, fun i j hi hj => by rw [mm_oneM hj, oneM_mm hi]⟩ h
end Go.Proofs.YtoiblknchcoecaaGreat

namespace Go.Proofs.YtoiblknchcoecaaGreat
theorem spn_diag {R C : Nat} {M U V D : Mx} {d : Nat → Int} (hU : Uni R U) (hV : Uni C V) (hCR : C ≤ R) (hD : ∀ i j, i < R → j < C → D i j = mm C (mm R U M) V i j) (hd : ∀ i j, i < R → j < C → D i j = if i = j then d j else 0) (v : Vc) :
  Spn R C M v ↔ ∀ j, j < C → d j ∣ sm C fun i => v i * V i j := by
 obtain ⟨Ui, u1, u2⟩ := hU
 obtain ⟨Vi, v1, v2⟩ := hV
 constructor
 ·rintro ⟨a, ha⟩ j hj
  refine ⟨mm R (fun _ => a) Ui 0 j, ?_⟩
  have e1 : (sm C fun i => v i * V i j) = mm C (mm R (fun _ => a) M) V 0 j := sm_congr fun i hi => by rw [ha i hi]; rfl
  have e2 : mm R (fun _ => a) M 0 j = mm R (fun _ => a) M 0 j := rfl
  have e3 : mm C (mm R (fun _ => a) M) V 0 j = mm R (mm R (fun _ => a) Ui) D 0 j := by
   rw [mm_congr2 (B := D) (B' := mm C (mm R U M) V) fun k hk => hD k j hk hj, mm_assoc (n := R) (m := C) (A := fun _ => a), mm_assoc]
   refine mm_congr2 fun k hk => ?_
   rw [← mm_assoc]
   refine (mm_congr1 fun q hq => ?_)
   rw [← mm_assoc, mm_congr1 (A' := oneM) fun p hp => u2 k p hk hp, oneM_mm hk]
  rw [e1, e3]
  show sm R (fun i => mm R (fun _ => a) Ui 0 i * D i j) = _
  rw [sm_one (c := j) (by omega) fun i hi hne => by rw [hd i j hi hj, if_neg hne, Int.mul_zero], hd j j (by omega) hj, if_pos rfl, Int.mul_comm]
 ·intro h
  let b : Nat → Int := fun j => if hj : j < C then (h j hj).choose else 0
  have hb : ∀ j, j < C → (sm C fun i => v i * V i j) = d j * b j := fun j hj => by
   have := (h j hj).choose_spec
   simp only [b, dif_pos hj]
   exact this
  refine ⟨fun i => mm R (fun _ => b) U 0 i, fun j hj => ?_⟩
  have e1 : ∀ k, k < C → mm R (fun _ => b) D 0 k = mm C (fun _ => v) V 0 k := fun k hk => by
   show sm R (fun i => b i * D i k) = sm C fun i => v i * V i k
   rw [hb k hk, sm_one (c := k) (by omega) fun i hi hne => by rw [hd i k hi hk, if_neg hne, Int.mul_zero], hd k k (by omega) hk, if_pos rfl, Int.mul_comm]
  have e2 : mm C (mm R (fun _ => b) D) Vi 0 j = v j := by
   rw [mm_congr1 fun k hk => e1 k hk, mm_assoc, mm_congr2 (B' := oneM) fun k hk => v1 k j hk hj, mm_oneM hj]
  have e3 : mm C (mm R (fun _ => b) D) Vi 0 j = mm R (mm R (fun _ => b) U) M 0 j := by
   rw [mm_assoc, mm_assoc]
   refine mm_congr2 fun k hk => ?_
   rw [mm_congr1 (A' := mm C (mm R U M) V) fun q hq => hD k q hk hq, mm_assoc, mm_congr2 (B' := oneM) fun q hq => v1 q j hq hj, mm_oneM hj]
  rw [← e2, e3]
  rfl
theorem fac_uni {m : Mat} (h : facOk m = true) : ∃ (R C : Nat) (U V : Mx), m.rows = (R : Int) ∧ m.cols = (C : Int) ∧ (facB m).length ≤ min R C ∧ (∀ i, i < (facB m).length → 0 < dS (facB m) i) ∧ Uni R U ∧ Uni C V ∧ ∀ i j, i < R → j < C → Dg (dS (facB m)) i j = mm C (mm R U (cell m.cells C)) V i j := by
 cases hB : isMatB m with
 | false => rw [(fac_none (facR_no hB)).1] at h; cases h
 | true =>
  obtain ⟨R, C, hmr, hmc, hR, hC, hl, hnum⟩ := isMatB_shape hB
  obtain ⟨mr, mc, cells⟩ := m
  simp only at hmr hmc hl hnum
  subst hmr
  subst hmc
  cases hs : smith cells R C with
  | none =>
   have := facR_mat hB
   rw [hs] at this
   rw [(fac_none this).1] at h; cases h
  | some s =>
   have h1 := facR_mat hB
   rw [hs] at h1
   have h2 : facB { rows := (R : Int), cols := (C : Int), cells := cells } = facP s.1 C (min R C) := (fac_some h1).2
   obtain ⟨-, k, hk, hD, hz⟩ := smith_diag hl hnum hs
   obtain ⟨U, V, hU, hV, he⟩ := smith_uni hl hnum hs
   have h3 : facP s.1 C (min R C) = (List.range k).map fun i => cell s.1 C i i := facP_eq hk (fun i hi => by have := hD.pos i hi; omega) fun i hi hi' => hz i i hi (by omega) hi (by omega)
   rw [h2, h3]
   have hd : ∀ i, dS ((List.range k).map fun i => cell s.1 C i i) i = if i < k then cell s.1 C i i else 0 := fun i => by
    unfold dS
    rw [List.getD_eq_getElem?_getD, List.getElem?_map]
    by_cases e : i < k
    ·rw [if_pos e, List.getElem?_range e]; rfl
    ·rw [if_neg e, List.getElem?_eq_none (by simp; omega)]; rfl
   have hdg : ∀ i j, i < R → j < C → Dg (dS ((List.range k).map fun i => cell s.1 C i i)) i j = cell s.1 C i j := fun i j hi hj => by
    by_cases e : i = j
    ·subst e
     rw [Dg_self, hd]
     by_cases e2 : i < k
     ·rw [if_pos e2]
     ·rw [if_neg e2, hz i i (by omega) hi (by omega) hj]
    ·rw [Dg_ne e]
     by_cases e2 : i < k ∨ j < k
     ·rw [hD.zs i j hi hj e e2]
     ·rw [hz i j (by omega) hi (by omega) hj]
   refine ⟨R, C, U, V, rfl, rfl, by simpa using hk, fun i hi => ?_, hU, hV, fun i j hi hj => by rw [hdg i j hi hj, he i j hi hj]⟩
   have hi : i < k := by simpa using hi
   rw [hd, if_pos hi]; exact hD.pos i hi
def dF (L : List Int) : Nat → Int := fun j => if j < L.length then dS L j else 1
theorem ix_fac {m : Mat} (h : facOk m = true) {C : Nat} (hc : m.cols = (C : Int)) (hL : (facB m).length = C) : ∃ R : Nat, m.rows = (R : Int) ∧ Ix (fun _ => True) (Spn R C (cell m.cells C)) (pdN (dF (facB m)) C) := by
 obtain ⟨R, C', U, V, hr, hc', hle, hpos, hU, hV, hD⟩ := fac_uni h
 obtain rfl : C' = C := by omega
 have hd : ∀ j, 0 < dF (facB m) j := fun j => by
  unfold dF
  split
  ·rename_i hj; exact hpos j hj
  ·decide
 refine ⟨R, hr, Ix.smith hV hd (spn_diag hU hV (by omega) hD fun i j hi hj => ?_)⟩
 unfold Dg dF
 by_cases e : i = j
 ·subst e
  rw [if_pos rfl, if_pos rfl, if_pos (by omega)]
 ·rw [if_neg e, if_neg e]
end Go.Proofs.YtoiblknchcoecaaGreat

namespace Go.Proofs.YtoiblknchcoecaaGreat
theorem Spn.lt {R C : Nat} {M : Mx} : Lt (Spn R C M) :=
 ⟨Spn.zero fun _ _ => rfl, fun v w hv hw => hv.comb hw 1 1 fun j _ => by simp, fun v hv => hv.comb hv (-1) 0 fun j _ => by simp⟩
theorem Ix.coord {n C p N : Nat} {k X b : Mx} (hI : Ind n C k) (hb : ∀ i j, i < p → j < C → b i j = mm n X k i j) (h : Ix (fun _ => True) (Spn p n X) N) : Ix (Spn n C k) (Spn p C b) N := by
 let φ : Vc → Vc := fun v => open Classical in if hv : Spn n C k v then hv.choose else fun _ => 0
 have hφ : ∀ v, Spn n C k v → ∀ j, j < C → v j = sm n fun i => φ v i * k i j := fun v hv j hj => by
  have := hv.choose_spec j hj
  simp only [φ, dif_pos hv]
  exact this
 have hsub : ∀ (a c : Vc) (j : Nat), (sm n fun i => (a i - c i) * k i j) = (sm n fun i => a i * k i j) - sm n fun i => c i * k i j := fun a c j => by
  rw [Int.sub_eq_add_neg, ← sm_neg, ← sm_add]
  exact sm_congr fun i _ => by rw [Int.sub_mul, Int.sub_eq_add_neg]
 refine Ix.via (K := fun _ => True) (L := Spn p n X) φ Spn.lt (fun _ _ => trivial) (fun v w hv hw => ?_) (fun u _ => ?_) h
 ·constructor
  ·rintro ⟨c, hc0⟩
   have hc : ∀ j, j < C → v j - w j = sm p fun i => c i * b i j := hc0
   refine ⟨c, fun i hi => ?_⟩
   have h0 := hI (fun i => φ v i - φ w i - sm p fun q => c q * X q i) (fun j hj => by
    rw [hsub, hsub, ← hφ v hv j hj, ← hφ w hw j hj]
    have e1 : (sm n fun i => (sm p fun q => c q * X q i) * k i j) = v j - w j := by
     have h1 : (sm n fun i => (sm p fun q => c q * X q i) * k i j) = mm n (mm p (fun _ => c) X) k 0 j := rfl
     rw [h1, mm_assoc, hc j hj]
     exact sm_congr fun q hq => by rw [hb q j hq hj]
    rw [e1, Int.sub_self]) i hi
   show φ v i - φ w i = _
   omega
  ·rintro ⟨c, hc0⟩
   have hc : ∀ i, i < n → φ v i - φ w i = sm p fun q => c q * X q i := hc0
   refine ⟨c, fun j hj => ?_⟩
   show v j - w j = _
   rw [hφ v hv j hj, hφ w hw j hj, ← hsub]
   have e1 : (sm n fun i => (φ v i - φ w i) * k i j) = mm n (mm p (fun _ => c) X) k 0 j := sm_congr fun i hi => by rw [hc i hi]; rfl
   rw [e1, mm_assoc]
   exact sm_congr fun q hq => by rw [hb q j hq hj]
 ·refine ⟨fun j => sm n fun i => u i * k i j, ⟨u, fun _ _ => rfl⟩, Spn.zero fun i hi => ?_⟩
  have hv : Spn n C k fun j => sm n fun i => u i * k i j := ⟨u, fun _ _ => rfl⟩
  have h0 := hI (fun i => u i - φ (fun j => sm n fun i => u i * k i j) i) (fun j hj => by
   rw [hsub, ← hφ _ hv j hj, Int.sub_self]) i hi
  exact h0
end Go.Proofs.YtoiblknchcoecaaGreat

namespace Go.Proofs.YtoiblknchcoecaaGreat
def EchT (C R : Nat) (m : List Int) (j t : Nat) : Prop := ∀ i, i < t → ∃ k, k < j ∧ 0 < cell m C i k ∧ (∀ k', k' < k → cell m C i k' = 0) ∧ ∀ i', i < i' → i' < R → ∀ k', k' ≤ k → cell m C i' k' = 0
theorem EchT.keep {C R j t : Nat} {m m' : List Int} (h : EchT C R m j t) (hj : j ≤ C) (h1 : ∀ i k, k < C → i < t → cell m' C i k = cell m C i k) (h2 : ∀ i, t ≤ i → i < R → ∀ k, k < j → cell m' C i k = 0) : EchT C R m' j t := fun i hi => by
 obtain ⟨k, q1, q2, q3, q4⟩ := h i hi
 refine ⟨k, q1, by rw [h1 i k (by omega) hi]; exact q2, fun k' hk' => by rw [h1 i k' (by omega) hi]; exact q3 k' hk', fun i' h3 h4 k' hk' => ?_⟩
 by_cases e : i' < t
 ·rw [h1 i' k' (by omega) e]; exact q4 i' h3 h4 k' hk'
 ·exact h2 i' (by omega) h4 k' (by omega)
end Go.Proofs.YtoiblknchcoecaaGreat

namespace Go.Proofs.YtoiblknchcoecaaGreat
theorem Ix.congr {K L L' : Vc → Prop} {N : Nat} (h : Ix K L N) (e : ∀ v, L v ↔ L' v) : Ix K L' N := by
 obtain rfl : L = L' := funext fun v => propext (e v)
 exact h
theorem bas_spn {m : Mat} {C N : Nat} {b : List Int} (hb : Bas m C N b) (h : basOk m = true) : ∃ R : Nat, m.rows = (R : Int) ∧ ∀ v, Spn R C (cell m.cells C) v ↔ Spn N C (cell b C) v := by
 obtain ⟨R, hr, -, h1, h2⟩ := bas_rows hb h
 exact ⟨R, hr, fun v => ⟨fun hv => hv.of_rwf h2, fun hv => hv.of_rwf h1⟩⟩
theorem bas_fac {m : Mat} {C N : Nat} {b : List Int} (hb : Bas m C N b) (h : basOk m = true) (hf : facOk m = true) : N = (facB m).length := by
 obtain ⟨R, hr, -, h1, h2⟩ := bas_rows hb h
 obtain ⟨R', C', hF⟩ := fac_of hf
 obtain rfl : R' = R := by have := hF.rows; omega
 obtain rfl : C' = C := by have := hF.cols; have := hb.cols; omega
 exact ind_fac (bas_ind hb h) hF h1.fct h2.fct
theorem fac_last {m : Mat} {C : Nat} (hf : facOk m = true) (hc : m.cols = (C : Int)) (hL : (facB m).length = C) {e : Int} (he : ∀ j, j < C → dS (facB m) j ∣ e) : ∃ R : Nat, m.rows = (R : Int) ∧ ∀ x : Vc, Spn R C (cell m.cells C) fun j => e * x j := by
 obtain ⟨R, C', U, V, hr, hc', hle, hpos, hU, hV, hD⟩ := fac_uni hf
 obtain rfl : C' = C := by omega
 refine ⟨R, hr, fun x => (spn_diag (d := dS (facB m)) hU hV (by omega) hD (fun i j hi hj => by
  by_cases e : i = j
  ·subst e; rw [Dg_self, if_pos rfl]
  ·rw [Dg_ne e, if_neg e]) _).2 fun j hj => ?_⟩
 have h1 : (sm C' fun i => e * x i * V i j) = e * sm C' fun i => x i * V i j := by
  rw [← sm_mul]
  exact sm_congr fun i _ => Int.mul_assoc _ _ _
 rw [h1]
 exact Int.dvd_trans (he j hj) (Int.dvd_mul_right _ _)
end Go.Proofs.YtoiblknchcoecaaGreat

namespace Go.Proofs.YtoiblknchcoecaaGreat
theorem le_mulr {a b : Int} (ha : 0 ≤ a) (hb : 1 ≤ b) : a ≤ a * b := by
 have := Int.mul_le_mul_of_nonneg_left hb ha
 rwa [Int.mul_one] at this
def prd (l : List Int) : Int := l.foldl (· * ·) 1
theorem prd_snoc (l : List Int) (x : Int) : prd (l ++ [x]) = prd l * x := by unfold prd; rw [List.foldl_append]; rfl
theorem prd_take {l : List Int} (h : ∀ x ∈ l, 1 ≤ x) : ∀ k, 1 ≤ prd (l.take k) ∧ prd (l.take k) ≤ prd (l.take (k + 1)) := by
 intro k
 induction k with
 | zero =>
  refine ⟨by simp [prd], ?_⟩
  cases l with
  | nil => simp [prd]
  | cons x r => have := h x (List.mem_cons_self ..); simp [prd]; omega
 | succ k ih =>
  have h1 : 1 ≤ prd (l.take (k + 1)) := by omega
  refine ⟨h1, ?_⟩
  cases hx : l[k + 1]? with
  | none =>
   have : l.length ≤ k + 1 := List.getElem?_eq_none_iff.1 hx
   rw [List.take_of_length_le this, List.take_of_length_le (by omega)]
   exact Int.le_refl _
  | some x =>
   rw [take_succ hx, prd_snoc]
   have h2 := h x (List.mem_of_getElem? hx)
   exact le_mulr (by omega) h2
theorem gt1_mem {L : List Int} {x : Int} (h : x ∈ gt1 L) : x ∈ L ∧ 1 < x := by
 unfold gt1 at h
 rw [List.mem_filter, decide_eq_true_eq] at h
 exact h
theorem dS_at {L : List Int} {i : Nat} {x : Int} (h : L[i]? = some x) : dS L i = x := by
 unfold dS; rw [List.getD_eq_getElem?_getD, h]; rfl
theorem pdN_gt1 {L : List Int} (hp : ∀ i, i < L.length → 0 < dS L i) : ∀ k, k ≤ L.length → prd (gt1 (L.take k)) = (pdN (dF L) k : Nat)
 | 0, _ => by simp [prd, gt1, pdN]
 | k + 1, hk => by
  obtain ⟨x, hx⟩ : ∃ x, L[k]? = some x := ⟨_, List.getElem?_eq_getElem (by omega)⟩
  have h1 := hp k (by omega)
  have ih := pdN_gt1 hp k (by omega)
  rw [dS_at hx] at h1
  have e1 : dF L k = x := by unfold dF; rw [if_pos (by omega), dS_at hx]
  simp only [pdN]
  rw [e1, Int.natCast_mul, Int.toNat_of_nonneg (by omega), ← ih]
  by_cases h2 : 1 < x
  ·rw [gt1_yes hx h2, prd_snoc]
  ·rw [gt1_no hx h2]
   obtain rfl : x = 1 := by omega
   omega
end Go.Proofs.YtoiblknchcoecaaGreat
