/-
  The Smith form is diagonal, each number divides the next one, and it is a product with the matrix both ways: plain.
-/
import Derived.Test.YtoiblknchcoecaaGreatZSmith
import Derived.Test.YtoiblknchcoecaaGreatZSmithT
import Derived.Test.YtoiblknchcoecaaGreatZSum
import Derived.Test.YtoiblknchcoecaaGreatZLatB
import Derived.Test.YtoiblknchcoecaaGreatZOrdP
set_option maxHeartbeats 8000000
set_option maxRecDepth 100000
namespace Go.Proofs.YtoiblknchcoecaaGreat
--BODY
structure Cl (C R t : Nat) (P : SS → Prop) : Prop where
 add : ∀ s s' i p q, t ≤ i → i < R → t ≤ p → p < R → i ≠ p → Ss C R s → rAdd3 C R i p q s = some s' → P s → P s'
 sw : ∀ s i p, t ≤ i → i < R → t ≤ p → p < R → i ≠ p → Ss C R s → P s → P (rSw3 C R i p s)
 neg : ∀ s i, t ≤ i → i < R → Ss C R s → P s → P (rNeg3 C R i s)
 cadd : ∀ s s' i p q, t ≤ i → i < C → t ≤ p → p < C → i ≠ p → Ss C R s → cAdd3 C R i p q s = some s' → P s → P s'
 csw : ∀ s i p, t ≤ i → i < C → t ≤ p → p < C → i ≠ p → Ss C R s → P s → P (cSw3 C R i p s)
theorem Cl.rows {C R t : Nat} {P : SS → Prop} (H : Cl C R t P) (ht : t < R) : ∀ {n i : Nat} {s s' : SS}, t < i → i + n ≤ R → Ss C R s → P s → rowsP C R t n i s = some s' → Ss C R s' ∧ P s'
 | 0, _, s, s', _, _, hs, hP, he => by obtain rfl := Option.some.inj he; exact ⟨hs, hP⟩
 | n + 1, i, s, s', hi, hn, hs, hP, he => by
  simp only [rowsP] at he
  split at he
  ·cases ha : rAdd3 C R i t (-(cell s.1 C i t / cell s.1 C t t)) s with
   | none => rw [ha] at he; cases he
   | some s1 =>
    rw [ha] at he
    exact H.rows ht (by omega) (by omega) (rAdd3_ss hs ha).1 (H.add _ _ _ _ _ (by omega) (by omega) (Nat.le_refl _) ht (by omega) hs ha hP) he
  ·exact H.rows ht (by omega) (by omega) hs hP he
theorem Cl.cols {C R t : Nat} {P : SS → Prop} (H : Cl C R t P) (ht : t < C) : ∀ {n i : Nat} {s s' : SS}, t < i → i + n ≤ C → Ss C R s → P s → colsP C R t n i s = some s' → Ss C R s' ∧ P s'
 | 0, _, s, s', _, _, hs, hP, he => by obtain rfl := Option.some.inj he; exact ⟨hs, hP⟩
 | n + 1, i, s, s', hi, hn, hs, hP, he => by
  simp only [colsP] at he
  split at he
  ·cases ha : cAdd3 C R i t (-(cell s.1 C t i / cell s.1 C t t)) s with
   | none => rw [ha] at he; cases he
   | some s1 =>
    rw [ha] at he
    exact H.cols ht (by omega) (by omega) (cAdd3_ss hs ha).1 (H.cadd _ _ _ _ _ (by omega) (by omega) (Nat.le_refl _) ht (by omega) hs ha hP) he
  ·exact H.cols ht (by omega) (by omega) hs hP he
theorem Cl.piv {C R t r c : Nat} {P : SS → Prop} (H : Cl C R t P) (ht : t < R) (htC : t < C) (hr : t ≤ r ∧ r < R) (hc : t ≤ c ∧ c < C) {s : SS} (hs : Ss C R s) (hP : P s) : P (toPiv C R t r c s) := by
 have h1 : P (if r = t then s else rSw3 C R r t s) ∧ Ss C R (if r = t then s else rSw3 C R r t s) := by
  split
  ·exact ⟨hP, hs⟩
  ·rename_i e; exact ⟨H.sw _ _ _ hr.1 hr.2 (Nat.le_refl _) ht e hs hP, rSw3_ss hs⟩
 unfold toPiv
 by_cases e : c = t
 ·rw [if_pos e]; exact h1.1
 ·rw [if_neg e]; exact H.csw _ _ _ hc.1 hc.2 (Nat.le_refl _) htC e h1.2 h1.1
theorem ls_lt {m : List Int} {C R t : Nat} (ht : t < R) (htC : t < C) (hp : 0 ≤ (leastS m C R t).1) : (t ≤ lsR m C R t ∧ lsR m C R t < R) ∧ (t ≤ lsC m C R t ∧ lsC m C R t < C) ∧ cell m C (lsR m C R t) (lsC m C R t) ≠ 0 := by
 rcases leastS_ok m (C := C) (R := R) (t := t) (by omega) (by omega) with ⟨h0, _⟩ | ⟨r, c, h0, h1, h2, h3, h4, h5, _⟩
 ·rw [h0] at hp; simp at hp
 ·unfold lsR lsC
  rw [h0]
  simp only [Int.toNat_natCast]
  exact ⟨⟨h1, h2⟩, ⟨h3, h4⟩, h5⟩
theorem Cl.rnd {C R t : Nat} {P : SS → Prop} (H : Cl C R t P) (ht : t < R) (htC : t < C) {s s' : SS} {b : Bool} (hs : Ss C R s) (hP : P s) (hp : 0 ≤ (leastS s.1 C R t).1) (he : rnd C R t s = some (s', b)) :
  P s' ∧ (b = true → (∀ i, t < i → i < R → cell s'.1 C i t = 0) ∧ (∀ j, t < j → j < C → cell s'.1 C t j = 0) ∧ (∀ i j, t < i → i < R → t < j → j < C → cell s'.1 C t t ∣ cell s'.1 C i j) ∧ cell s'.1 C t t ≠ 0) := by
 obtain ⟨hr, hc, hne⟩ := ls_lt ht htC hp
 unfold Go.Proofs.YtoiblknchcoecaaGreat.rnd at he
 have h0 := toPiv_ss (t := t) (r := lsR s.1 C R t) (c := lsC s.1 C R t) hs
 have hP0 := H.piv ht htC hr hc hs hP
 have hpc := toPiv_cell (t := t) hs hr.2 hc.2 ht htC
 generalize toPiv C R t (lsR s.1 C R t) (lsC s.1 C R t) s = s0 at *
 unfold rnd1 at he
 cases hA : rowsP C R t (R - (t + 1)) (t + 1) s0 with
 | none => rw [hA] at he; cases he
 | some s1 =>
  rw [hA] at he
  simp only [Option.bind_some] at he
  obtain ⟨a1, a2, -, -⟩ := rowsP_spec ht htC h0 (by omega) (by omega) (by rw [hpc]; exact hne) hA
  have hP1 := (H.rows ht (by omega) (by omega) h0 hP0 hA).2
  have hp1 : cell s1.1 C t t ≠ 0 := by rw [a2 t htC, hpc]; exact hne
  cases hB : colsP C R t (C - (t + 1)) (t + 1) s1 with
  | none => rw [hB] at he; cases he
  | some s2 =>
   rw [hB] at he
   simp only [Option.bind_some] at he
   obtain ⟨b1, b2, -, -⟩ := colsP_spec ht htC a1 (by omega) (by omega) hp1 hB
   have hP2 := (H.cols htC (by omega) (by omega) a1 hP1 hB).2
   have hp2 : cell s2.1 C t t ≠ 0 := by rw [b2 t ht]; exact hp1
   cases hcl : (colClean s2.1 C R t && rowClean s2.1 C t) with
   | false =>
    rw [hcl] at he
    simp only [Bool.false_eq_true, if_false, Option.some.injEq, Prod.mk.injEq] at he
    obtain ⟨rfl, rfl⟩ := he
    exact ⟨hP2, fun h => by cases h⟩
   | true =>
    rw [hcl] at he
    simp only [if_true] at he
    rw [Bool.and_eq_true] at hcl
    cases hdv : divRow s2.1 C R t with
    | none =>
     rw [hdv] at he
     simp only [Option.some.injEq, Prod.mk.injEq] at he
     obtain ⟨rfl, rfl⟩ := he
     refine ⟨hP2, fun _ => ⟨colClean_iff.1 hcl.1, rowClean_iff.1 hcl.2, fun i j hi hiR hj hjC => ?_, hp2⟩⟩
     unfold divRow at hdv
     have := List.find?_eq_none.1 hdv (i - (t + 1)) (List.mem_range.2 (by omega))
     rw [show t + 1 + (i - (t + 1)) = i by omega] at this
     have h3 : ¬ ∃ j, t < j ∧ j < C ∧ (cell s2.1 C i j).tmod (cell s2.1 C t t) ≠ 0 := fun h => this (rowBad_iff.2 h)
     exact Int.dvd_of_tmod_eq_zero (Classical.byContradiction fun h4 => h3 ⟨j, hj, hjC, h4⟩)
    | some d =>
     rw [hdv] at he
     simp only [Option.map_eq_some_iff, Prod.mk.injEq] at he
     obtain ⟨s3, hs3, rfl, rfl⟩ := he
     unfold divRow at hdv
     have hdr := List.mem_range.1 (List.mem_of_find?_eq_some hdv)
     exact ⟨H.add _ _ _ _ _ (Nat.le_refl _) ht (by omega) (by omega) (by omega) b1 hs3 hP2, fun h => by cases h⟩
theorem Cl.loop {C R t : Nat} {P : SS → Prop} (H : Cl C R t P) (ht : t < R) (htC : t < C) : ∀ {n : Nat} {s s' : SS}, Ss C R s → P s → 0 ≤ (leastS s.1 C R t).1 → sLoop C R t n s = some s' →
  P s' ∧ (∀ i, t < i → i < R → cell s'.1 C i t = 0) ∧ (∀ j, t < j → j < C → cell s'.1 C t j = 0) ∧ (∀ i j, t < i → i < R → t < j → j < C → cell s'.1 C t t ∣ cell s'.1 C i j) ∧ cell s'.1 C t t ≠ 0
 | 0, _, _, _, _, _, h => by cases h
 | n + 1, s, s', hs, hP, hp, h => by
  simp only [sLoop] at h
  cases hr : Go.Proofs.YtoiblknchcoecaaGreat.rnd C R t s with
  | none => rw [hr] at h; cases h
  | some x =>
   obtain ⟨s1, b⟩ := x
   obtain ⟨g1, g2⟩ := rnd_spec ht htC hs hp hr
   obtain ⟨q1, q2⟩ := H.rnd ht htC hs hP hp hr
   rw [hr] at h
   cases b with
   | true =>
    obtain rfl := Option.some.inj h
    exact ⟨q1, q2 rfl⟩
   | false => exact H.loop ht htC g1 q1 (g2 rfl).1 h
theorem mm_tr {n : Nat} {A E : Mx} {r c : Nat} : mm n A (fun k c => E c k) r c = mm n E (fun k r => A r k) c r := sm_congr fun _ _ => Int.mul_comm _ _
theorem Fct.row {R C : Nat} {M M' E : Mx} (h : ∀ i j, i < R → j < C → M' i j = mm R E M i j) : Fct R C M' R C M := Rwf.fct ⟨E, h⟩
theorem Fct.col {R C : Nat} {M M' F : Mx} (h : ∀ i j, i < R → j < C → M' i j = mm C M F i j) : Fct R C M' R C M :=
 ⟨oneM, F, fun i j hi hj => by rw [h i j hi hj]; exact mm_congr1 fun k _ => (oneM_mm hi).symm⟩
theorem Fct.row_back {R C : Nat} {M M' E E' : Mx} (h : ∀ i j, i < R → j < C → M' i j = mm R E M i j) (he : ∀ i j, i < R → j < R → mm R E' E i j = oneM i j) : Fct R C M R C M' :=
 Fct.row (E := E') fun i j hi hj => by
  rw [mm_congr2 (B' := mm R E M) fun k hk => h k j hk hj, ← mm_assoc, mm_congr1 (A' := oneM) fun k hk => he i k hi hk, oneM_mm hi]
theorem Fct.col_back {R C : Nat} {M M' F F' : Mx} (h : ∀ i j, i < R → j < C → M' i j = mm C M F i j) (he : ∀ i j, i < C → j < C → mm C F F' i j = oneM i j) : Fct R C M R C M' :=
 Fct.col (F := F') fun i j hi hj => by
  rw [mm_congr1 (A' := mm C M F) fun k hk => h i k hi hk, mm_assoc, mm_congr2 (B' := oneM) fun k hk => he k j hk hj, mm_oneM hj]
theorem oneM_tr (i j : Nat) : oneM i j = oneM j i := by
 unfold oneM
 by_cases e : i = j
 ·subst e; rfl
 ·rw [if_neg e, if_neg (fun h => e h.symm)]
def Both (C R : Nat) (M : Mx) (s : SS) : Prop := Fct R C (cell s.1 C) R C M ∧ Fct R C M R C (cell s.1 C)
theorem both_cl (C R t : Nat) (M : Mx) : Cl C R t (Both C R M) where
 add s s' i p q _ hi _ hp hne hs he hP := by
  have e := (rAdd3_ss hs he).2
  have h : ∀ a j, a < R → j < C → cell s'.1 C a j = mm R (eAdd i p q) (cell s.1 C) a j := fun a j ha hj => by
   rw [e, eAdd_mm hi hp ha]; exact cell_addR hs.la hi hj
  exact ⟨(Fct.row h).trans hP.1, hP.2.trans (Fct.row_back (E' := eAdd i p (-q)) h fun a j ha _ => by have := eAdd_inv (R := R) (t := -q) hi hp hne (j := j) ha; rwa [Int.neg_neg] at this)⟩
 sw s i p _ hi _ hp hne hs hP := by
  have h : ∀ a j, a < R → j < C → cell (rSw3 C R i p s).1 C a j = mm R (eSw i p) (cell s.1 C) a j := fun a j ha hj => by
   rw [eSw_mm hi hp ha]; exact cell_swR hs.la hi hp hne hj
  exact ⟨(Fct.row h).trans hP.1, hP.2.trans (Fct.row_back (E' := eSw i p) h fun a j ha _ => eSw_inv hi hp ha)⟩
 neg s i _ hi hs hP := by
  have h : ∀ a j, a < R → j < C → cell (rNeg3 C R i s).1 C a j = mm R (eNeg i) (cell s.1 C) a j := fun a j ha hj => by
   rw [eNeg_mm hi ha]; exact cell_negR hs.la hi hj
  exact ⟨(Fct.row h).trans hP.1, hP.2.trans (Fct.row_back (E' := eNeg i) h fun a j ha _ => eNeg_inv hi ha)⟩
 cadd s s' i p q _ hi _ hp hne hs he hP := by
  have e := (cAdd3_ss hs he).2
  have h : ∀ a j, a < R → j < C → cell s'.1 C a j = mm C (cell s.1 C) (fun k c => eAdd i p q c k) a j := fun a j ha hj => by
   rw [e, mm_tr, eAdd_mm hi hp hj]; exact cell_cAdd ha hj
  exact ⟨(Fct.col h).trans hP.1, hP.2.trans (Fct.col_back (F' := fun k c => eAdd i p (-q) c k) h fun a j ha hj => by
   rw [mm_tr]
   have := eAdd_inv (R := C) (t := -q) hi hp hne (j := a) hj
   rw [Int.neg_neg] at this
   rw [oneM_tr]; exact this)⟩
 csw s i p _ hi _ hp hne hs hP := by
  have h : ∀ a j, a < R → j < C → cell (cSw3 C R i p s).1 C a j = mm C (cell s.1 C) (fun k c => eSw i p c k) a j := fun a j ha hj => by
   rw [mm_tr, eSw_mm hi hp hj]; exact cell_cSw ha hj
  exact ⟨(Fct.col h).trans hP.1, hP.2.trans (Fct.col_back (F' := fun k c => eSw i p c k) h fun a j ha hj => by
   rw [mm_tr, oneM_tr]; exact eSw_inv hi hp hj)⟩
def Keeps (C R t : Nat) (s0 s : SS) : Prop := (∀ i j, i < R → j < C → (i < t ∨ j < t) → cell s.1 C i j = cell s0.1 C i j) ∧ ∀ e : Int, (∀ i j, t ≤ i → i < R → t ≤ j → j < C → e ∣ cell s0.1 C i j) → ∀ i j, t ≤ i → i < R → t ≤ j → j < C → e ∣ cell s.1 C i j
def Zs (C R t : Nat) (s : SS) : Prop := ∀ i j, i < R → j < C → i ≠ j → (i < t ∨ j < t) → cell s.1 C i j = 0
theorem keeps_cl {C R t : Nat} {s0 : SS} (hz : Zs C R t s0) : Cl C R t (Keeps C R t s0) where
 add s s' i p q hti hi htp hp _ hs he hP := by
  have e := (rAdd3_ss hs he).2
  have h : ∀ a j, j < C → cell s'.1 C a j = if a = i then cell s.1 C i j + cell s.1 C p j * q else cell s.1 C a j := fun a j hj => by rw [e]; exact cell_addR hs.la hi hj
  refine ⟨fun a j ha hj hlt => ?_, fun d hd a j hta ha htj hj => ?_⟩
  ·rw [h a j hj]
   by_cases ea : a = i
   ·subst ea
    rw [if_pos rfl, hP.1 a j hi hj hlt, hP.1 p j hp hj (.inr (by omega)), hz p j hp hj (by omega) (.inr (by omega))]; omega
   ·rw [if_neg ea]; exact hP.1 a j ha hj hlt
  ·rw [h a j hj]
   split
   ·exact Int.dvd_add (hP.2 d hd i j hti hi htj hj) (Int.dvd_trans (hP.2 d hd p j htp hp htj hj) (Int.dvd_mul_right _ _))
   ·exact hP.2 d hd a j hta ha htj hj
 sw s i p hti hi htp hp hne hs hP := by
  have h : ∀ a j, j < C → cell (rSw3 C R i p s).1 C a j = if a = i then cell s.1 C p j else if a = p then cell s.1 C i j else cell s.1 C a j := fun a j hj => cell_swR hs.la hi hp hne hj
  refine ⟨fun a j ha hj hlt => ?_, fun d hd a j hta ha htj hj => ?_⟩
  ·rw [h a j hj]
   by_cases ea : a = i
   ·subst ea
    rw [if_pos rfl, hP.1 p j hp hj (.inr (by omega)), hz p j hp hj (by omega) (.inr (by omega)), hz a j ha hj (by omega) (.inr (by omega))]
   ·rw [if_neg ea]
    by_cases ep : a = p
    ·subst ep
     rw [if_pos rfl, hP.1 i j hi hj (.inr (by omega)), hz i j hi hj (by omega) (.inr (by omega)), hz a j ha hj (by omega) (.inr (by omega))]
    ·rw [if_neg ep]; exact hP.1 a j ha hj hlt
  ·rw [h a j hj]
   split
   ·exact hP.2 d hd p j htp hp htj hj
   ·split
    ·exact hP.2 d hd i j hti hi htj hj
    ·exact hP.2 d hd a j hta ha htj hj
 neg s i hti hi hs hP := by
  have h : ∀ a j, j < C → cell (rNeg3 C R i s).1 C a j = if a = i then -cell s.1 C i j else cell s.1 C a j := fun a j hj => cell_negR hs.la hi hj
  refine ⟨fun a j ha hj hlt => ?_, fun d hd a j hta ha htj hj => ?_⟩
  ·rw [h a j hj]
   by_cases ea : a = i
   ·subst ea
    rw [if_pos rfl, hP.1 a j ha hj hlt, hz a j ha hj (by omega) (.inr (by omega))]; rfl
   ·rw [if_neg ea]; exact hP.1 a j ha hj hlt
  ·rw [h a j hj]
   split
   ·exact Int.dvd_neg.2 (hP.2 d hd i j hti hi htj hj)
   ·exact hP.2 d hd a j hta ha htj hj
 cadd s s' i p q hti hi htp hp _ hs he hP := by
  have e := (cAdd3_ss hs he).2
  have h : ∀ a j, a < R → j < C → cell s'.1 C a j = if j = i then cell s.1 C a i + cell s.1 C a p * q else cell s.1 C a j := fun a j ha hj => by rw [e]; exact cell_cAdd ha hj
  refine ⟨fun a j ha hj hlt => ?_, fun d hd a j hta ha htj hj => ?_⟩
  ·rw [h a j ha hj]
   by_cases ea : j = i
   ·subst ea
    rw [if_pos rfl, hP.1 a j ha hj hlt, hP.1 a p ha hp (.inl (by omega)), hz a p ha hp (by omega) (.inl (by omega))]; omega
   ·rw [if_neg ea]; exact hP.1 a j ha hj hlt
  ·rw [h a j ha hj]
   split
   ·exact Int.dvd_add (hP.2 d hd a i hta ha hti hi) (Int.dvd_trans (hP.2 d hd a p hta ha htp hp) (Int.dvd_mul_right _ _))
   ·exact hP.2 d hd a j hta ha htj hj
 csw s i p hti hi htp hp _ hs hP := by
  have h : ∀ a j, a < R → j < C → cell (cSw3 C R i p s).1 C a j = if j = i then cell s.1 C a p else if j = p then cell s.1 C a i else cell s.1 C a j := fun a j ha hj => cell_cSw ha hj
  refine ⟨fun a j ha hj hlt => ?_, fun d hd a j hta ha htj hj => ?_⟩
  ·rw [h a j ha hj]
   by_cases ea : j = i
   ·subst ea
    rw [if_pos rfl, hP.1 a p ha hp (.inl (by omega)), hz a p ha hp (by omega) (.inl (by omega)), hz a j ha hj (by omega) (.inl (by omega))]
   ·rw [if_neg ea]
    by_cases ep : j = p
    ·subst ep
     rw [if_pos rfl, hP.1 a i ha hi (.inl (by omega)), hz a i ha hi (by omega) (.inl (by omega)), hz a j ha hj (by omega) (.inl (by omega))]
    ·rw [if_neg ep]; exact hP.1 a j ha hj hlt
  ·rw [h a j ha hj]
   split
   ·exact hP.2 d hd a p hta ha htp hp
   ·split
    ·exact hP.2 d hd a i hta ha hti hi
    ·exact hP.2 d hd a j hta ha htj hj
structure Dn (C R t : Nat) (s : SS) : Prop where
 zs : Zs C R t s
 pos : ∀ i, i < t → 0 < cell s.1 C i i
 dv : ∀ i, i < t → ∀ i' j', i ≤ i' → i' < R → i ≤ j' → j' < C → cell s.1 C i i ∣ cell s.1 C i' j'
theorem Dn.next {C R t : Nat} (ht : t < R) (htC : t < C) {s0 s : SS} (h : Dn C R t s0) (hs : Ss C R s) (hk : Keeps C R t s0 s) (h1 : ∀ i, t < i → i < R → cell s.1 C i t = 0) (h2 : ∀ j, t < j → j < C → cell s.1 C t j = 0) (h3 : ∀ i j, t < i → i < R → t < j → j < C → cell s.1 C t t ∣ cell s.1 C i j) (hne : cell s.1 C t t ≠ 0) : Dn C R (t + 1) (sNeg C R t s) := by
 have hk2 : Keeps C R t s0 (sNeg C R t s) := by
  unfold sNeg
  split
  ·exact (keeps_cl h.zs).neg _ _ (Nat.le_refl _) ht hs hk
  ·exact hk
 obtain ⟨hc, hpos⟩ : (∀ a j, j < C → cell (sNeg C R t s).1 C a j = cell s.1 C a j ∨ (a = t ∧ cell (sNeg C R t s).1 C a j = -cell s.1 C a j)) ∧ 0 < cell (sNeg C R t s).1 C t t := by
  unfold sNeg
  split
  ·rename_i hlt
   have hcell : ∀ a j, j < C → cell (rNeg3 C R t s).1 C a j = if a = t then -cell s.1 C t j else cell s.1 C a j := fun a j hj => cell_negR hs.la ht hj
   refine ⟨fun a j hj => ?_, ?_⟩
   ·rw [hcell a j hj]
    by_cases e : a = t
    ·subst e; rw [if_pos rfl]; exact .inr ⟨rfl, rfl⟩
    ·rw [if_neg e]; exact .inl rfl
   ·rw [hcell t t htC, if_pos rfl]; omega
  ·exact ⟨fun _ _ _ => .inl rfl, by omega⟩
 have hz : ∀ a j, j < C → cell s.1 C a j = 0 → cell (sNeg C R t s).1 C a j = 0 := fun a j hj hz => by
  rcases hc a j hj with e | ⟨_, e⟩
  ·rw [e, hz]
  ·rw [e, hz]; rfl
 have htt : cell (sNeg C R t s).1 C t t = cell s.1 C t t ∨ cell (sNeg C R t s).1 C t t = -cell s.1 C t t := (hc t t htC).imp_right fun h => h.2
 have hdd : ∀ x, cell s.1 C t t ∣ x → cell (sNeg C R t s).1 C t t ∣ x := fun x hx => by
  rcases htt with e | e
  ·rw [e]; exact hx
  ·rw [e]; exact Int.neg_dvd.2 hx
 refine ⟨fun i j hi hj hij hlt => ?_, fun i hi => ?_, fun i hi i' j' hii hi' hij hj' => ?_⟩
 ·by_cases e : i < t ∨ j < t
  ·rw [hk2.1 i j hi hj e]; exact h.zs i j hi hj hij e
  ·by_cases ei : i = t
   ·subst ei; exact hz i j hj (h2 j (by omega) hj)
   ·have ej : j = t := by omega
    subst ej; exact hz i j hj (h1 i (by omega) hi)
 ·by_cases e : i = t
  ·subst e; exact hpos
  ·rw [hk2.1 i i (by omega) (by omega) (.inl (by omega))]; exact h.pos i (by omega)
 ·by_cases e : i = t
  ·subst e
   by_cases e1 : i' = i
   ·by_cases e2 : j' = i
    ·rw [e1, e2]; exact Int.dvd_refl _
    ·rw [e1, hz i j' hj' (h2 j' (by omega) hj')]; exact Int.dvd_zero _
   ·by_cases e2 : j' = i
    ·rw [e2, hz i' i htC (h1 i' (by omega) hi')]; exact Int.dvd_zero _
    ·rcases hc i' j' hj' with e3 | ⟨e3, _⟩
     ·rw [e3]; exact hdd _ (h3 i' j' (by omega) hi' (by omega) hj')
     ·exact (e1 e3).elim
  ·rw [hk2.1 i i (by omega) (by omega) (.inl (by omega))]
   by_cases e1 : i' < t ∨ j' < t
   ·rw [hk2.1 i' j' hi' hj' e1]; exact h.dv i (by omega) i' j' hii hi' hij hj'
   ·exact hk2.2 _ (fun a b ha ha' hb hb' => h.dv i (by omega) a b (by omega) ha' (by omega) hb') i' j' (by omega) hi' (by omega) hj'
theorem sAll_diag {C R : Nat} {M : Mx} : ∀ {n t : Nat} {s s' : SS}, t + n = min R C → Ss C R s → Both C R M s → Dn C R t s → sAll C R n t s = some s' → Both C R M s' ∧ ∃ k, k ≤ min R C ∧ Dn C R k s' ∧ ∀ i j, k ≤ i → i < R → k ≤ j → j < C → cell s'.1 C i j = 0
 | 0, t, s, s', ht, hs, hB, hD, h => by
  obtain rfl := Option.some.inj h
  exact ⟨hB, t, by omega, hD, fun i j h1 h2 h3 h4 => by omega⟩
 | n + 1, t, s, s', ht, hs, hB, hD, h => by
  simp only [sAll] at h
  split at h
  ·rename_i hl
   obtain rfl := Option.some.inj h
   refine ⟨hB, t, by omega, hD, fun i j h1 h2 h3 h4 => ?_⟩
   rcases leastS_ok s.1 (C := C) (R := R) (t := t) (by omega) (by omega) with ⟨_, h0⟩ | ⟨r, c, h0, _⟩
   ·exact h0 i j ⟨h1, h2, h3, h4⟩
   ·rw [h0] at hl; simp only at hl; omega
  ·rename_i hp
   cases ha : sA C R t s with
   | none => rw [ha] at h; cases h
   | some s1 =>
    rw [ha] at h
    have hs1 := sLoop_ss (show t < R by omega) (by omega) hs (by omega) ha
    obtain ⟨b1, -⟩ := (both_cl C R t M).loop (by omega) (by omega) hs hB (by omega) ha
    obtain ⟨k1, q1, q2, q3, q4⟩ := (keeps_cl hD.zs).loop (by omega) (by omega) hs ⟨fun _ _ _ _ _ => rfl, fun _ h => h⟩ (by omega) ha
    have hB2 : Both C R M (sNeg C R t s1) := by
     unfold sNeg
     split
     ·exact (both_cl C R t M).neg _ _ (Nat.le_refl _) (by omega) hs1 b1
     ·exact b1
    exact sAll_diag (by omega) (sNeg_ss hs1) hB2 (hD.next (by omega) (by omega) hs1 k1 q1 q2 q3 q4) h
theorem smith_diag {m : List Int} {R C : Nat} (hl : m.length = R * C) (hm : NumL m) {s : SS} (h : smith m R C = some s) : Both C R (cell m C) s ∧ ∃ k, k ≤ min R C ∧ Dn C R k s ∧ ∀ i j, k ≤ i → i < R → k ≤ j → j < C → cell s.1 C i j = 0 :=
 sAll_diag (by omega) ⟨hl, idL_len R, idL_len C, hm, idL_num R, idL_num C⟩ ⟨Fct.refl _ _ _, Fct.refl _ _ _⟩ ⟨fun i j _ _ _ h => by omega, fun i h => by omega, fun i h => by omega⟩ h
def dS (L : List Int) : Nat → Int := fun i => L.getD i 0
theorem facP_eq {m : List Int} {C : Nat} : ∀ {n k : Nat}, k ≤ n → (∀ i, i < k → cell m C i i ≠ 0) → (∀ i, k ≤ i → i < n → cell m C i i = 0) → facP m C n = (List.range k).map fun i => cell m C i i
 | 0, k, hk, _, _ => by
  obtain rfl : k = 0 := by omega
  rfl
 | n + 1, k, hk, h1, h2 => by
  by_cases e : k = n + 1
  ·subst e
   rw [facP_yes (h1 n (by omega)), facP_eq (Nat.le_refl n) (fun i hi => h1 i (by omega)) (fun i hi hi' => by omega), List.range_succ, List.map_append]; rfl
  ·rw [facP_no (h2 n (by omega) (by omega))]
   exact facP_eq (by omega) h1 fun i hi hi' => h2 i hi (by omega)
structure Fac (m : Mat) (R C : Nat) (L : List Int) : Prop where
 rows : m.rows = (R : Int)
 cols : m.cols = (C : Int)
 len : m.cells.length = R * C
 le : L.length ≤ min R C
 pos : ∀ i, i < L.length → 0 < dS L i
 dv : ∀ i j, i ≤ j → dS L i ∣ dS L j
 fw : Fct R C (Dg (dS L)) R C (cell m.cells C)
 bw : Fct R C (cell m.cells C) R C (Dg (dS L))
theorem fac_of {m : Mat} (h : facOk m = true) : ∃ R C, Fac m R C (facB m) := by
 cases hB : isMatB m with
 | false => rw [(fac_none (facR_no hB)).1] at h; cases h
 | true =>
  obtain ⟨R, C, hmr, hmc, hR, hC, hl, hnum⟩ := isMatB_shape hB
  obtain ⟨mr, mc, cells⟩ := m
  simp only at hmr hmc hl hnum
  subst hmr
  subst hmc
  cases hs : smith cells R C with
  | none =>
   have := facR_mat hB
   rw [hs] at this
   rw [(fac_none this).1] at h; cases h
  | some s =>
   have h1 := facR_mat hB
   rw [hs] at h1
   have h2 : facB { rows := (R : Int), cols := (C : Int), cells := cells } = facP s.1 C (min R C) := (fac_some h1).2
   obtain ⟨⟨b1, b2⟩, k, hk, hD, hz⟩ := smith_diag hl hnum hs
   have h3 : facP s.1 C (min R C) = (List.range k).map fun i => cell s.1 C i i := facP_eq hk (fun i hi => by have := hD.pos i hi; omega) fun i hi hi' => hz i i hi (by omega) hi (by omega)
   rw [h2, h3]
   have hd : ∀ i, dS ((List.range k).map fun i => cell s.1 C i i) i = if i < k then cell s.1 C i i else 0 := fun i => by
    unfold dS
    rw [List.getD_eq_getElem?_getD, List.getElem?_map]
    by_cases e : i < k
    ·rw [if_pos e, List.getElem?_range e]; rfl
    ·rw [if_neg e, List.getElem?_eq_none (by simp; omega)]; rfl
   have hdg : ∀ i j, i < R → j < C → Dg (dS ((List.range k).map fun i => cell s.1 C i i)) i j = cell s.1 C i j := fun i j hi hj => by
    by_cases e : i = j
    ·subst e
     rw [Dg_self, hd]
     by_cases e2 : i < k
     ·rw [if_pos e2]
     ·rw [if_neg e2, hz i i (by omega) hi (by omega) hj]
    ·rw [Dg_ne e]
     by_cases e2 : i < k ∨ j < k
     ·rw [hD.zs i j hi hj e e2]
     ·rw [hz i j (by omega) hi (by omega) hj]
   refine ⟨R, C, rfl, rfl, hl, by simpa using hk, fun i hi => ?_, fun i j hij => ?_, (Fct.of_eq hdg).trans b1, b2.trans (Fct.of_eq fun i j hi hj => (hdg i j hi hj).symm)⟩
   ·have hi : i < k := by simpa using hi
    rw [hd, if_pos hi]; exact hD.pos i hi
   ·rw [hd, hd]
    by_cases e : j < k
    ·rw [if_pos e, if_pos (by omega)]
     exact hD.dv i (by omega) j j hij (by omega) hij (by omega)
    ·rw [if_neg e]; exact Int.dvd_zero _
theorem dS_ge {L : List Int} {i : Nat} (h : L.length ≤ i) : dS L i = 0 := by
 unfold dS; rw [List.getD_eq_getElem?_getD, List.getElem?_eq_none h]; rfl
theorem fac_dvd {m m' : Mat} {R C R' C' : Nat} {L L' : List Int} (h : Fac m R C L) (h' : Fac m' R' C' L') (hf : Fct R' C' (cell m'.cells C') R C (cell m.cells C)) (i : Nat) : dS L i ∣ dS L' i := by
 by_cases hi : i < L'.length
 ·have := h'.le
  exact fct_dvd h.dv h'.dv ((h'.fw.trans hf).trans h.bw) (by omega) (by omega)
 ·rw [dS_ge (L := L') (by omega)]; exact Int.dvd_zero _
end Go.Proofs.YtoiblknchcoecaaGreat

namespace Go.Proofs.YtoiblknchcoecaaGreat
--BODY
theorem sg_le {T N : Nat} {Z : Mx} (h : ∀ y : Nat → Int, (∀ i, i < T → sm N (fun j => Z i j * y j) = 0) → ∀ j, j < N → y j = 0) : N ≤ T := by
 by_cases hlt : N ≤ T
 ·exact hlt
 ·obtain ⟨y, -, ⟨j, hj, hne⟩, hy⟩ := siegelF T N Z (by omega)
  exact (hne (h y hy j hj)).elim
theorem dot_lin (n k : Nat) (r : Nat → Int) (B : Mx) (y : Nat → Int) : sm n (fun c => r c * sm k fun b => B c b * y b) = sm k fun b => (sm n fun c => r c * B c b) * y b := by
 rw [sm_congr (g := fun c => sm k fun b => r c * B c b * y b) fun c _ => by rw [← sm_mul]; exact sm_congr fun b _ => (Int.mul_assoc _ _ _).symm, sm_swap]
 exact sm_congr fun b _ => sm_mulr _ _ _
structure EcF (m : Mat) (R C T : Nat) (z : List Int) (p : Nat → Nat) : Prop where
 rows : m.rows = (R : Int)
 cols : m.cols = (C : Int)
 len : m.cells.length = R * C
 eq : ecT m = T
 pv : Pvs C R z C T p
 ker : ∀ x : Nat → Int, (∀ i, i < R → sm C (fun k => cell m.cells C i k * x k) = 0) ↔ ∀ i, i < R → sm C (fun k => cell z C i k * x k) = 0
theorem EcF.inj {m : Mat} {R C T : Nat} {z : List Int} {p : Nat → Nat} (h : EcF m R C T z p) {a b : Nat} (ha : a < T) (hb : b < T) (e : p a = p b) : a = b := by
 by_cases hab : a = b
 ·exact hab
 ·have h1 := (h.pv.piv b hb).2.2 a (by have := h.pv.le; omega) hab
  rw [← e] at h1
  exact ((h.pv.piv a ha).2.1 h1).elim
theorem EcF.zero {m : Mat} {R C T : Nat} {z : List Int} {p : Nat → Nat} (h : EcF m R C T z p) {y : Nat → Int} (hz : ∀ i, i < R → sm C (fun c => cell m.cells C i c * sm T fun l => oneM c (p l) * y l) = 0) : ∀ l, l < T → y l = 0 := fun l hl => by
 obtain ⟨q1, q2, q3⟩ := h.pv.piv l hl
 have hle := h.pv.le
 have h1 := (h.ker fun c => sm T fun l => oneM c (p l) * y l).1 hz l (by omega)
 rw [dot_lin] at h1
 have e : ∀ b, b < T → (sm C fun c => cell z C l c * oneM c (p b)) = cell z C l (p b) := fun b hb => by
  have := mm_oneM (n := C) (A := cell z C) (i := l) (j := p b) (h.pv.piv b hb).1
  exact this
 rw [sm_congr (g := fun b => cell z C l (p b) * y b) fun b hb => by rw [e b hb], sm_one hl fun b hb hne => by rw [(h.pv.piv b hb).2.2 l (by omega) (Ne.symm hne), Int.zero_mul]] at h1
 rcases Int.mul_eq_zero.1 h1 with h2 | h2
 ·exact (q2 h2).elim
 ·exact h2
theorem dg_row {R k : Nat} {d : Nat → Int} {A : Mx} {i j : Nat} (hk : k ≤ R) (hd : ∀ a, k ≤ a → d a = 0) : mm R A (Dg d) i j = if j < k then A i j * d j else 0 := by
 unfold mm
 by_cases hj : j < R
 ·rw [sm_one hj fun a _ ha => by rw [Dg_ne ha, Int.mul_zero], Dg_self]
  by_cases e : j < k
  ·rw [if_pos e]
  ·rw [if_neg e, hd j (by omega), Int.mul_zero]
 ·rw [if_neg (by omega)]
  exact sm_zero fun a ha => by rw [Dg_ne (by omega), Int.mul_zero]
theorem ind_le {N T C : Nat} {A B : Mx} (hi : Ind N C A) (h : Rwf N A T C B) : N ≤ T := by
 obtain ⟨X, hX⟩ := h
 refine sg_le (Z := fun k i => X i k) fun y hy => hi y fun j hj => ?_
 rw [sm_congr (g := fun i => y i * mm T X B i j) fun i hi' => by rw [hX i j hi' hj]]
 show mm N (fun _ => y) (mm T X B) 0 j = 0
 rw [← mm_assoc]
 exact sm_zero fun k hk => by
  have : mm N (fun _ => y) X 0 k = 0 := by
   rw [← hy k hk]; exact sm_congr fun i _ => Int.mul_comm _ _
  rw [this, Int.zero_mul]
theorem ind_fac {N C R' C' : Nat} {b : Mx} {m' : Mat} {L : List Int} (hb : Ind N C b) (hF : Fac m' R' C' L) (hf : Fct N C b R' C' (cell m'.cells C')) (hg : Fct R' C' (cell m'.cells C') N C b) : N = L.length := by
 have hle := hF.le
 refine Nat.le_antisymm ?_ ?_
 ·obtain ⟨A, B, hAB⟩ := hf.trans hF.bw
  have : Rwf N b L.length C (fun k j => dS L k * B k j) := ⟨A, fun i j hi hj => by
   rw [hAB i j hi hj]
   show sm C' (fun k => mm R' A (Dg (dS L)) i k * B k j) = _
   rw [sm_ext (show L.length ≤ C' by omega) fun k h1 h2 => by rw [dg_row (show L.length ≤ R' by omega) fun a ha => dS_ge ha, if_neg (by omega), Int.zero_mul]]
   exact sm_congr fun k hk => by rw [dg_row (show L.length ≤ R' by omega) fun a ha => dS_ge ha, if_pos hk, Int.mul_assoc]⟩
  exact ind_le hb this
 ·obtain ⟨A, B, hAB⟩ := hF.fw.trans hg
  refine sg_le (Z := fun k i => A i k) fun y hy => fun j hj => ?_
  have e1 : sm L.length (fun i => y i * Dg (dS L) i j) = 0 := by
   rw [sm_congr (g := fun i => y i * mm C (mm N A b) B i j) fun i hi' => by rw [hAB i j (by omega) (by omega)]]
   show mm L.length (fun _ => y) (mm C (mm N A b) B) 0 j = 0
   rw [← mm_assoc]
   refine sm_zero fun c _ => ?_
   have : mm L.length (fun _ => y) (mm N A b) 0 c = 0 := by
    rw [← mm_assoc]
    refine sm_zero fun k hk => ?_
    have : mm L.length (fun _ => y) A 0 k = 0 := by
     rw [← hy k hk]; exact sm_congr fun i _ => Int.mul_comm _ _
    rw [this, Int.zero_mul]
   rw [this, Int.zero_mul]
  rw [sm_one hj fun i _ hne => by rw [Dg_ne hne, Int.mul_zero], Dg_self] at e1
  rcases Int.mul_eq_zero.1 e1 with h2 | h2
  ·exact h2
  ·have := hF.pos j hj; omega
theorem kern_count {m : Mat} {R N : Nat} {b : List Int} (hk : Kern m R N b) (h : kerOk m = true) : ∃ C t bb, Bas m C t bb ∧ basOk m = true ∧ N + t = R := by
 obtain ⟨C, s, hc, hl, hnum, hC, hh, hbk, hb⟩ := kern_parts hk h
 obtain ⟨hU, W, hw1, hw2⟩ := herm_fact hl hnum hh
 obtain ⟨hs, t, ht, hE⟩ := herm_spec hl hnum hh
 have et := ech_last hE R (Nat.le_refl _) ht
 obtain ⟨Q, hQ, hlQ, hf, hg⟩ := bas_rows hb hbk
 have hQt : Q = R - t := by
  have : (kernM s C R).rows = ((R - lastN s.1 C R : Nat) : Int) := rfl
  rw [this, et] at hQ; omega
 have hcell : ∀ i k, cell (kernM s C R).cells R i k = cell s.2 R (t + i) k := fun i k => by
  show cell (s.2.drop (lastN s.1 C R * R)) R i k = _
  rw [et]; exact cell_drop
 have hB : isMatB m = true := by
  cases hB : isMatB m with
  | true => rfl
  | false =>
   have := (kerB_none (m := m) (by unfold hermR; rw [hB]; rfl)).1
   rw [this] at h; cases h
 have hm : m = { rows := (R : Int), cols := (C : Int), cells := m.cells } := by
  obtain ⟨mr, mc, cells⟩ := m
  have := hk.rows
  simp only at this hc
  rw [this, hc]
 have hB2 := hB
 rw [hm] at hB2
 have hok := (basB_some hB2 hh).1
 rw [← hm] at hok
 obtain ⟨C', N', b', hb'⟩ := bas_of hok
 have hcc := hb'.cols
 obtain rfl : C' = C := by omega
 have e1 := hb'.eq
 rw [hm, (basB_some hB2 hh).2, et] at e1
 have e3 := congrArg Mat.rows e1
 simp only at e3
 obtain rfl : N' = t := by omega
 refine ⟨C', N', b', hb', hok, ?_⟩
 have hK0 : Ind Q R (cell (kernM s C' R).cells R) := fun a ha => by
  intro i hi
  have e0 : mm R (mm Q (fun _ => a) (cell (kernM s C' R).cells R)) (fun r j => W r (N' + j)) 0 i = a i := by
   rw [mm_assoc, mm_congr2 (B' := oneM) fun q hq => ?_, mm_oneM hi]
   have e4 : mm R (cell (kernM s C' R).cells R) (fun r j => W r (N' + j)) q i = mm R (cell s.2 R) W (N' + q) (N' + i) := sm_congr fun r _ => by rw [hcell]
   rw [e4, hw1 (N' + q) (N' + i) (by omega) (by omega)]
   unfold oneM
   by_cases e : q = i
   ·rw [if_pos e, if_pos (by omega)]
   ·rw [if_neg e, if_neg (by omega)]
  rw [← e0]
  exact sm_zero fun r hr => by
   have : mm Q (fun _ => a) (cell (kernM s C' R).cells R) 0 r = 0 := ha r hr
   rw [this, Int.zero_mul]
 have h5 := ind_le hK0 hg
 have h6 := ind_le (bas_ind hb hbk) hf
 omega
--END
end Go.Proofs.YtoiblknchcoecaaGreat

namespace Go.Proofs.YtoiblknchcoecaaGreat
open Go.RowKit
--BODY
structure Chn (L : List Int) : Prop where
 pos : ∀ i, i < L.length → 0 < dS L i
 dv : ∀ i j, i ≤ j → dS L i ∣ dS L j
def skip (r i : Nat) : Nat := if i < r then i else i + 1
def Sm (R C : Nat) (M : Mx) (L : List Int) : Prop := Chn L ∧ ∃ R' C', L.length ≤ min R' C' ∧ Fct R C M R' C' (Dg (dS L)) ∧ Fct R' C' (Dg (dS L)) R C M
theorem Sm.of {R C R' C' : Nat} {M M' : Mx} {L : List Int} (h : Sm R C M L) (hf : Fct R' C' M' R C M) (hg : Fct R C M R' C' M') : Sm R' C' M' L := by
 obtain ⟨c, R1, C1, l1, f1, g1⟩ := h
 exact ⟨c, R1, C1, l1, hf.trans f1, g1.trans hg⟩
def Rk (R C : Nat) (M : Mx) (r : Nat) : Prop := ∃ (C' : Nat) (b : Mx), Ind r C' b ∧ Fct r C' b R C M ∧ Fct R C M r C' b
theorem ind_fle {N C N' C' : Nat} {b b' : Mx} (h : Ind N C b) (hf : Fct N C b N' C' b') : N ≤ N' := by
 obtain ⟨A, B, hf⟩ := hf
 exact ind_le h ⟨A, fun i j hi hj => by rw [hf i j hi hj, mm_assoc]⟩
theorem Rk.of {R C R' C' : Nat} {M M' : Mx} {r : Nat} (h : Rk R C M r) (hf : Fct R' C' M' R C M) (hg : Fct R C M R' C' M') : Rk R' C' M' r := by
 obtain ⟨C1, b1, i1, f1, g1⟩ := h
 exact ⟨C1, b1, i1, f1.trans hg, hf.trans g1⟩
theorem Fct.col' {R C C' : Nat} {M M' F : Mx} (h : ∀ i j, i < R → j < C' → M' i j = mm C M F i j) : Fct R C' M' R C M :=
 ⟨oneM, F, fun i j hi hj => by rw [h i j hi hj]; exact mm_congr1 fun k _ => (oneM_mm hi).symm⟩
end Go.Proofs.YtoiblknchcoecaaGreat
