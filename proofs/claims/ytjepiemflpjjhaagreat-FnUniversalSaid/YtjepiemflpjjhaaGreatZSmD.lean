/-
  The Smith form is diagonal, each number divides the next one, and it is a product with the matrix both ways: plain.
-/
import Derived.Test.YtjepiemflpjjhaaGreatZSmith
import Derived.Test.YtjepiemflpjjhaaGreatZSmithT
import Derived.Test.YtjepiemflpjjhaaGreatZSum
import Derived.Test.YtjepiemflpjjhaaGreatZLatB
import Derived.Test.YtjepiemflpjjhaaGreatZOrdP
import Derived.Test.YtjepiemflpjjhaaGreatZMods
import Derived.Test.YtjepiemflpjjhaaGreatZRes
import Derived.Test.YtjepiemflpjjhaaGreatZResB
import Derived.Test.YtjepiemflpjjhaaGreatZTurn
set_option maxHeartbeats 8000000
set_option maxRecDepth 100000
namespace Go.Proofs.YtjepiemflpjjhaaGreat
--BODY
structure Cl (C R t : Nat) (P : SS → Prop) : Prop where
 add : ∀ s s' i p q, t ≤ i → i < R → t ≤ p → p < R → i ≠ p → Ss C R s → rAdd3 C R i p q s = some s' → P s → P s'
 sw : ∀ s i p, t ≤ i → i < R → t ≤ p → p < R → i ≠ p → Ss C R s → P s → P (rSw3 C R i p s)
 neg : ∀ s i, t ≤ i → i < R → Ss C R s → P s → P (rNeg3 C R i s)
 cadd : ∀ s s' i p q, t ≤ i → i < C → t ≤ p → p < C → i ≠ p → Ss C R s → cAdd3 C R i p q s = some s' → P s → P s'
 csw : ∀ s i p, t ≤ i → i < C → t ≤ p → p < C → i ≠ p → Ss C R s → P s → P (cSw3 C R i p s)
theorem Cl.rows {C R t : Nat} {P : SS → Prop} (H : Cl C R t P) (ht : t < R) : ∀ {n i : Nat} {s s' : SS}, t < i → i + n ≤ R → Ss C R s → P s → rowsP C R t n i s = some s' → Ss C R s' ∧ P s'
 | 0, _, s, s', _, _, hs, hP, he => by obtain rfl := Option.some.inj he; exact ⟨hs, hP⟩
 | n + 1, i, s, s', hi, hn, hs, hP, he => by
  simp only [rowsP] at he
  split at he
  ·cases ha : rAdd3 C R i t (-(cell s.1 C i t / cell s.1 C t t)) s with
   | none => rw [ha] at he; cases he
   | some s1 =>
    rw [ha] at he
    exact H.rows ht (by omega) (by omega) (rAdd3_ss hs ha).1 (H.add _ _ _ _ _ (by omega) (by omega) (Nat.le_refl _) ht (by omega) hs ha hP) he
  ·exact H.rows ht (by omega) (by omega) hs hP he
theorem Cl.cols {C R t : Nat} {P : SS → Prop} (H : Cl C R t P) (ht : t < C) : ∀ {n i : Nat} {s s' : SS}, t < i → i + n ≤ C → Ss C R s → P s → colsP C R t n i s = some s' → Ss C R s' ∧ P s'
 | 0, _, s, s', _, _, hs, hP, he => by obtain rfl := Option.some.inj he; exact ⟨hs, hP⟩
 | n + 1, i, s, s', hi, hn, hs, hP, he => by
  simp only [colsP] at he
  split at he
  ·cases ha : cAdd3 C R i t (-(cell s.1 C t i / cell s.1 C t t)) s with
   | none => rw [ha] at he; cases he
   | some s1 =>
    rw [ha] at he
    exact H.cols ht (by omega) (by omega) (cAdd3_ss hs ha).1 (H.cadd _ _ _ _ _ (by omega) (by omega) (Nat.le_refl _) ht (by omega) hs ha hP) he
  ·exact H.cols ht (by omega) (by omega) hs hP he
theorem Cl.piv {C R t r c : Nat} {P : SS → Prop} (H : Cl C R t P) (ht : t < R) (htC : t < C) (hr : t ≤ r ∧ r < R) (hc : t ≤ c ∧ c < C) {s : SS} (hs : Ss C R s) (hP : P s) : P (toPiv C R t r c s) := by
 have h1 : P (if r = t then s else rSw3 C R r t s) ∧ Ss C R (if r = t then s else rSw3 C R r t s) := by
  split
  ·exact ⟨hP, hs⟩
  ·rename_i e; exact ⟨H.sw _ _ _ hr.1 hr.2 (Nat.le_refl _) ht e hs hP, rSw3_ss hs⟩
 unfold toPiv
 by_cases e : c = t
 ·rw [if_pos e]; exact h1.1
 ·rw [if_neg e]; exact H.csw _ _ _ hc.1 hc.2 (Nat.le_refl _) htC e h1.2 h1.1
theorem ls_lt {m : List Int} {C R t : Nat} (ht : t < R) (htC : t < C) (hp : 0 ≤ (leastS m C R t).1) : (t ≤ lsR m C R t ∧ lsR m C R t < R) ∧ (t ≤ lsC m C R t ∧ lsC m C R t < C) ∧ cell m C (lsR m C R t) (lsC m C R t) ≠ 0 := by
 rcases leastS_ok m (C := C) (R := R) (t := t) (by omega) (by omega) with ⟨h0, _⟩ | ⟨r, c, h0, h1, h2, h3, h4, h5, _⟩
 ·rw [h0] at hp; simp at hp
 ·unfold lsR lsC
  rw [h0]
  simp only [Int.toNat_natCast]
  exact ⟨⟨h1, h2⟩, ⟨h3, h4⟩, h5⟩
theorem Cl.rnd {C R t : Nat} {P : SS → Prop} (H : Cl C R t P) (ht : t < R) (htC : t < C) {s s' : SS} {b : Bool} (hs : Ss C R s) (hP : P s) (hp : 0 ≤ (leastS s.1 C R t).1) (he : rnd C R t s = some (s', b)) :
  P s' ∧ (b = true → (∀ i, t < i → i < R → cell s'.1 C i t = 0) ∧ (∀ j, t < j → j < C → cell s'.1 C t j = 0) ∧ (∀ i j, t < i → i < R → t < j → j < C → cell s'.1 C t t ∣ cell s'.1 C i j) ∧ cell s'.1 C t t ≠ 0) := by
 obtain ⟨hr, hc, hne⟩ := ls_lt ht htC hp
 unfold Go.Proofs.YtjepiemflpjjhaaGreat.rnd at he
 have h0 := toPiv_ss (t := t) (r := lsR s.1 C R t) (c := lsC s.1 C R t) hs
 have hP0 := H.piv ht htC hr hc hs hP
 have hpc := toPiv_cell (t := t) hs hr.2 hc.2 ht htC
 generalize toPiv C R t (lsR s.1 C R t) (lsC s.1 C R t) s = s0 at *
 unfold rnd1 at he
 cases hA : rowsP C R t (R - (t + 1)) (t + 1) s0 with
 | none => rw [hA] at he; cases he
 | some s1 =>
  rw [hA] at he
  simp only [Option.bind_some] at he
  obtain ⟨a1, a2, -, -⟩ := rowsP_spec ht htC h0 (by omega) (by omega) (by rw [hpc]; exact hne) hA
  have hP1 := (H.rows ht (by omega) (by omega) h0 hP0 hA).2
  have hp1 : cell s1.1 C t t ≠ 0 := by rw [a2 t htC, hpc]; exact hne
  cases hB : colsP C R t (C - (t + 1)) (t + 1) s1 with
  | none => rw [hB] at he; cases he
  | some s2 =>
   rw [hB] at he
   simp only [Option.bind_some] at he
   obtain ⟨b1, b2, -, -⟩ := colsP_spec ht htC a1 (by omega) (by omega) hp1 hB
   have hP2 := (H.cols htC (by omega) (by omega) a1 hP1 hB).2
   have hp2 : cell s2.1 C t t ≠ 0 := by rw [b2 t ht]; exact hp1
   cases hcl : (colClean s2.1 C R t && rowClean s2.1 C t) with
   | false =>
    rw [hcl] at he
    simp only [Bool.false_eq_true, if_false, Option.some.injEq, Prod.mk.injEq] at he
    obtain ⟨rfl, rfl⟩ := he
    exact ⟨hP2, fun h => by cases h⟩
   | true =>
    rw [hcl] at he
    simp only [if_true] at he
    rw [Bool.and_eq_true] at hcl
    cases hdv : divRow s2.1 C R t with
    | none =>
     rw [hdv] at he
     simp only [Option.some.injEq, Prod.mk.injEq] at he
     obtain ⟨rfl, rfl⟩ := he
     refine ⟨hP2, fun _ => ⟨colClean_iff.1 hcl.1, rowClean_iff.1 hcl.2, fun i j hi hiR hj hjC => ?_, hp2⟩⟩
     unfold divRow at hdv
     have := List.find?_eq_none.1 hdv (i - (t + 1)) (List.mem_range.2 (by omega))
     rw [show t + 1 + (i - (t + 1)) = i by omega] at this
     have h3 : ¬ ∃ j, t < j ∧ j < C ∧ (cell s2.1 C i j).tmod (cell s2.1 C t t) ≠ 0 := fun h => this (rowBad_iff.2 h)
     exact Int.dvd_of_tmod_eq_zero (Classical.byContradiction fun h4 => h3 ⟨j, hj, hjC, h4⟩)
    | some d =>
     rw [hdv] at he
     simp only [Option.map_eq_some_iff, Prod.mk.injEq] at he
     obtain ⟨s3, hs3, rfl, rfl⟩ := he
     unfold divRow at hdv
     have hdr := List.mem_range.1 (List.mem_of_find?_eq_some hdv)
     exact ⟨H.add _ _ _ _ _ (Nat.le_refl _) ht (by omega) (by omega) (by omega) b1 hs3 hP2, fun h => by cases h⟩
theorem Cl.loop {C R t : Nat} {P : SS → Prop} (H : Cl C R t P) (ht : t < R) (htC : t < C) : ∀ {n : Nat} {s s' : SS}, Ss C R s → P s → 0 ≤ (leastS s.1 C R t).1 → sLoop C R t n s = some s' →
  P s' ∧ (∀ i, t < i → i < R → cell s'.1 C i t = 0) ∧ (∀ j, t < j → j < C → cell s'.1 C t j = 0) ∧ (∀ i j, t < i → i < R → t < j → j < C → cell s'.1 C t t ∣ cell s'.1 C i j) ∧ cell s'.1 C t t ≠ 0
 | 0, _, _, _, _, _, h => by cases h
 | n + 1, s, s', hs, hP, hp, h => by
  simp only [sLoop] at h
  cases hr : Go.Proofs.YtjepiemflpjjhaaGreat.rnd C R t s with
  | none => rw [hr] at h; cases h
  | some x =>
   obtain ⟨s1, b⟩ := x
   obtain ⟨g1, g2⟩ := rnd_spec ht htC hs hp hr
   obtain ⟨q1, q2⟩ := H.rnd ht htC hs hP hp hr
   rw [hr] at h
   cases b with
   | true =>
    obtain rfl := Option.some.inj h
    exact ⟨q1, q2 rfl⟩
   | false => exact H.loop ht htC g1 q1 (g2 rfl).1 h
theorem mm_tr {n : Nat} {A E : Mx} {r c : Nat} : mm n A (fun k c => E c k) r c = mm n E (fun k r => A r k) c r := sm_congr fun _ _ => Int.mul_comm _ _
theorem Fct.row {R C : Nat} {M M' E : Mx} (h : ∀ i j, i < R → j < C → M' i j = mm R E M i j) : Fct R C M' R C M := Rwf.fct ⟨E, h⟩
theorem Fct.col {R C : Nat} {M M' F : Mx} (h : ∀ i j, i < R → j < C → M' i j = mm C M F i j) : Fct R C M' R C M :=
 ⟨oneM, F, fun i j hi hj => by rw [h i j hi hj]; exact mm_congr1 fun k _ => (oneM_mm hi).symm⟩
theorem Fct.row_back {R C : Nat} {M M' E E' : Mx} (h : ∀ i j, i < R → j < C → M' i j = mm R E M i j) (he : ∀ i j, i < R → j < R → mm R E' E i j = oneM i j) : Fct R C M R C M' :=
 Fct.row (E := E') fun i j hi hj => by
  rw [mm_congr2 (B' := mm R E M) fun k hk => h k j hk hj, ← mm_assoc, mm_congr1 (A' := oneM) fun k hk => he i k hi hk, oneM_mm hi]
theorem Fct.col_back {R C : Nat} {M M' F F' : Mx} (h : ∀ i j, i < R → j < C → M' i j = mm C M F i j) (he : ∀ i j, i < C → j < C → mm C F F' i j = oneM i j) : Fct R C M R C M' :=
 Fct.col (F := F') fun i j hi hj => by
  rw [mm_congr1 (A' := mm C M F) fun k hk => h i k hi hk, mm_assoc, mm_congr2 (B' := oneM) fun k hk => he k j hk hj, mm_oneM hj]
theorem oneM_tr (i j : Nat) : oneM i j = oneM j i := by
 unfold oneM
 by_cases e : i = j
 ·subst e; rfl
 ·rw [if_neg e, if_neg (fun h => e h.symm)]
def Both (C R : Nat) (M : Mx) (s : SS) : Prop := Fct R C (cell s.1 C) R C M ∧ Fct R C M R C (cell s.1 C)
theorem both_cl (C R t : Nat) (M : Mx) : Cl C R t (Both C R M) where
 add s s' i p q _ hi _ hp hne hs he hP := by
  have e := (rAdd3_ss hs he).2
  have h : ∀ a j, a < R → j < C → cell s'.1 C a j = mm R (eAdd i p q) (cell s.1 C) a j := fun a j ha hj => by
   rw [e, eAdd_mm hi hp ha]; exact cell_addR hs.la hi hj
  exact ⟨(Fct.row h).trans hP.1, hP.2.trans (Fct.row_back (E' := eAdd i p (-q)) h fun a j ha _ => by have := eAdd_inv (R := R) (t := -q) hi hp hne (j := j) ha; rwa [Int.neg_neg] at this)⟩
 sw s i p _ hi _ hp hne hs hP := by
  have h : ∀ a j, a < R → j < C → cell (rSw3 C R i p s).1 C a j = mm R (eSw i p) (cell s.1 C) a j := fun a j ha hj => by
   rw [eSw_mm hi hp ha]; exact cell_swR hs.la hi hp hne hj
  exact ⟨(Fct.row h).trans hP.1, hP.2.trans (Fct.row_back (E' := eSw i p) h fun a j ha _ => eSw_inv hi hp ha)⟩
 neg s i _ hi hs hP := by
  have h : ∀ a j, a < R → j < C → cell (rNeg3 C R i s).1 C a j = mm R (eNeg i) (cell s.1 C) a j := fun a j ha hj => by
   rw [eNeg_mm hi ha]; exact cell_negR hs.la hi hj
  exact ⟨(Fct.row h).trans hP.1, hP.2.trans (Fct.row_back (E' := eNeg i) h fun a j ha _ => eNeg_inv hi ha)⟩
 cadd s s' i p q _ hi _ hp hne hs he hP := by
  have e := (cAdd3_ss hs he).2
  have h : ∀ a j, a < R → j < C → cell s'.1 C a j = mm C (cell s.1 C) (fun k c => eAdd i p q c k) a j := fun a j ha hj => by
   rw [e, mm_tr, eAdd_mm hi hp hj]; exact cell_cAdd ha hj
  exact ⟨(Fct.col h).trans hP.1, hP.2.trans (Fct.col_back (F' := fun k c => eAdd i p (-q) c k) h fun a j ha hj => by
   rw [mm_tr]
   have := eAdd_inv (R := C) (t := -q) hi hp hne (j := a) hj
   rw [Int.neg_neg] at this
   rw [oneM_tr]; exact this)⟩
 csw s i p _ hi _ hp hne hs hP := by
  have h : ∀ a j, a < R → j < C → cell (cSw3 C R i p s).1 C a j = mm C (cell s.1 C) (fun k c => eSw i p c k) a j := fun a j ha hj => by
   rw [mm_tr, eSw_mm hi hp hj]; exact cell_cSw ha hj
  exact ⟨(Fct.col h).trans hP.1, hP.2.trans (Fct.col_back (F' := fun k c => eSw i p c k) h fun a j ha hj => by
   rw [mm_tr, oneM_tr]; exact eSw_inv hi hp hj)⟩
def Keeps (C R t : Nat) (s0 s : SS) : Prop := (∀ i j, i < R → j < C → (i < t ∨ j < t) → cell s.1 C i j = cell s0.1 C i j) ∧ ∀ e : Int, (∀ i j, t ≤ i → i < R → t ≤ j → j < C → e ∣ cell s0.1 C i j) → ∀ i j, t ≤ i → i < R → t ≤ j → j < C → e ∣ cell s.1 C i j
def Zs (C R t : Nat) (s : SS) : Prop := ∀ i j, i < R → j < C → i ≠ j → (i < t ∨ j < t) → cell s.1 C i j = 0
theorem keeps_cl {C R t : Nat} {s0 : SS} (hz : Zs C R t s0) : Cl C R t (Keeps C R t s0) where
 add s s' i p q hti hi htp hp _ hs he hP := by
  have e := (rAdd3_ss hs he).2
  have h : ∀ a j, j < C → cell s'.1 C a j = if a = i then cell s.1 C i j + cell s.1 C p j * q else cell s.1 C a j := fun a j hj => by rw [e]; exact cell_addR hs.la hi hj
  refine ⟨fun a j ha hj hlt => ?_, fun d hd a j hta ha htj hj => ?_⟩
  ·rw [h a j hj]
   by_cases ea : a = i
   ·subst ea
    rw [if_pos rfl, hP.1 a j hi hj hlt, hP.1 p j hp hj (.inr (by omega)), hz p j hp hj (by omega) (.inr (by omega))]; omega
   ·rw [if_neg ea]; exact hP.1 a j ha hj hlt
  ·rw [h a j hj]
   split
   ·exact Int.dvd_add (hP.2 d hd i j hti hi htj hj) (Int.dvd_trans (hP.2 d hd p j htp hp htj hj) (Int.dvd_mul_right _ _))
   ·exact hP.2 d hd a j hta ha htj hj
 sw s i p hti hi htp hp hne hs hP := by
  have h : ∀ a j, j < C → cell (rSw3 C R i p s).1 C a j = if a = i then cell s.1 C p j else if a = p then cell s.1 C i j else cell s.1 C a j := fun a j hj => cell_swR hs.la hi hp hne hj
  refine ⟨fun a j ha hj hlt => ?_, fun d hd a j hta ha htj hj => ?_⟩
  ·rw [h a j hj]
   by_cases ea : a = i
   ·subst ea
    rw [if_pos rfl, hP.1 p j hp hj (.inr (by omega)), hz p j hp hj (by omega) (.inr (by omega)), hz a j ha hj (by omega) (.inr (by omega))]
   ·rw [if_neg ea]
    by_cases ep : a = p
    ·subst ep
     rw [if_pos rfl, hP.1 i j hi hj (.inr (by omega)), hz i j hi hj (by omega) (.inr (by omega)), hz a j ha hj (by omega) (.inr (by omega))]
    ·rw [if_neg ep]; exact hP.1 a j ha hj hlt
  ·rw [h a j hj]
   split
   ·exact hP.2 d hd p j htp hp htj hj
   ·split
    ·exact hP.2 d hd i j hti hi htj hj
    ·exact hP.2 d hd a j hta ha htj hj
 neg s i hti hi hs hP := by
  have h : ∀ a j, j < C → cell (rNeg3 C R i s).1 C a j = if a = i then -cell s.1 C i j else cell s.1 C a j := fun a j hj => cell_negR hs.la hi hj
  refine ⟨fun a j ha hj hlt => ?_, fun d hd a j hta ha htj hj => ?_⟩
  ·rw [h a j hj]
   by_cases ea : a = i
   ·subst ea
    rw [if_pos rfl, hP.1 a j ha hj hlt, hz a j ha hj (by omega) (.inr (by omega))]; rfl
   ·rw [if_neg ea]; exact hP.1 a j ha hj hlt
  ·rw [h a j hj]
   split
   ·exact Int.dvd_neg.2 (hP.2 d hd i j hti hi htj hj)
   ·exact hP.2 d hd a j hta ha htj hj
 cadd s s' i p q hti hi htp hp _ hs he hP := by
  have e := (cAdd3_ss hs he).2
  have h : ∀ a j, a < R → j < C → cell s'.1 C a j = if j = i then cell s.1 C a i + cell s.1 C a p * q else cell s.1 C a j := fun a j ha hj => by rw [e]; exact cell_cAdd ha hj
  refine ⟨fun a j ha hj hlt => ?_, fun d hd a j hta ha htj hj => ?_⟩
  ·rw [h a j ha hj]
   by_cases ea : j = i
   ·subst ea
    rw [if_pos rfl, hP.1 a j ha hj hlt, hP.1 a p ha hp (.inl (by omega)), hz a p ha hp (by omega) (.inl (by omega))]; omega
   ·rw [if_neg ea]; exact hP.1 a j ha hj hlt
  ·rw [h a j ha hj]
   split
   ·exact Int.dvd_add (hP.2 d hd a i hta ha hti hi) (Int.dvd_trans (hP.2 d hd a p hta ha htp hp) (Int.dvd_mul_right _ _))
   ·exact hP.2 d hd a j hta ha htj hj
 csw s i p hti hi htp hp _ hs hP := by
  have h : ∀ a j, a < R → j < C → cell (cSw3 C R i p s).1 C a j = if j = i then cell s.1 C a p else if j = p then cell s.1 C a i else cell s.1 C a j := fun a j ha hj => cell_cSw ha hj
  refine ⟨fun a j ha hj hlt => ?_, fun d hd a j hta ha htj hj => ?_⟩
  ·rw [h a j ha hj]
   by_cases ea : j = i
   ·subst ea
    rw [if_pos rfl, hP.1 a p ha hp (.inl (by omega)), hz a p ha hp (by omega) (.inl (by omega)), hz a j ha hj (by omega) (.inl (by omega))]
   ·rw [if_neg ea]
    by_cases ep : j = p
    ·subst ep
     rw [if_pos rfl, hP.1 a i ha hi (.inl (by omega)), hz a i ha hi (by omega) (.inl (by omega)), hz a j ha hj (by omega) (.inl (by omega))]
    ·rw [if_neg ep]; exact hP.1 a j ha hj hlt
  ·rw [h a j ha hj]
   split
   ·exact hP.2 d hd a p hta ha htp hp
   ·split
    ·exact hP.2 d hd a i hta ha hti hi
    ·exact hP.2 d hd a j hta ha htj hj
structure Dn (C R t : Nat) (s : SS) : Prop where
 zs : Zs C R t s
 pos : ∀ i, i < t → 0 < cell s.1 C i i
 dv : ∀ i, i < t → ∀ i' j', i ≤ i' → i' < R → i ≤ j' → j' < C → cell s.1 C i i ∣ cell s.1 C i' j'
theorem Dn.next {C R t : Nat} (ht : t < R) (htC : t < C) {s0 s : SS} (h : Dn C R t s0) (hs : Ss C R s) (hk : Keeps C R t s0 s) (h1 : ∀ i, t < i → i < R → cell s.1 C i t = 0) (h2 : ∀ j, t < j → j < C → cell s.1 C t j = 0) (h3 : ∀ i j, t < i → i < R → t < j → j < C → cell s.1 C t t ∣ cell s.1 C i j) (hne : cell s.1 C t t ≠ 0) : Dn C R (t + 1) (sNeg C R t s) := by
 have hk2 : Keeps C R t s0 (sNeg C R t s) := by
  unfold sNeg
  split
  ·exact (keeps_cl h.zs).neg _ _ (Nat.le_refl _) ht hs hk
  ·exact hk
 obtain ⟨hc, hpos⟩ : (∀ a j, j < C → cell (sNeg C R t s).1 C a j = cell s.1 C a j ∨ (a = t ∧ cell (sNeg C R t s).1 C a j = -cell s.1 C a j)) ∧ 0 < cell (sNeg C R t s).1 C t t := by
  unfold sNeg
  split
  ·rename_i hlt
   have hcell : ∀ a j, j < C → cell (rNeg3 C R t s).1 C a j = if a = t then -cell s.1 C t j else cell s.1 C a j := fun a j hj => cell_negR hs.la ht hj
   refine ⟨fun a j hj => ?_, ?_⟩
   ·rw [hcell a j hj]
    by_cases e : a = t
    ·subst e; rw [if_pos rfl]; exact .inr ⟨rfl, rfl⟩
    ·rw [if_neg e]; exact .inl rfl
   ·rw [hcell t t htC, if_pos rfl]; omega
  ·exact ⟨fun _ _ _ => .inl rfl, by omega⟩
 have hz : ∀ a j, j < C → cell s.1 C a j = 0 → cell (sNeg C R t s).1 C a j = 0 := fun a j hj hz => by
  rcases hc a j hj with e | ⟨_, e⟩
  ·rw [e, hz]
  ·rw [e, hz]; rfl
 have htt : cell (sNeg C R t s).1 C t t = cell s.1 C t t ∨ cell (sNeg C R t s).1 C t t = -cell s.1 C t t := (hc t t htC).imp_right fun h => h.2
 have hdd : ∀ x, cell s.1 C t t ∣ x → cell (sNeg C R t s).1 C t t ∣ x := fun x hx => by
  rcases htt with e | e
  ·rw [e]; exact hx
  ·rw [e]; exact Int.neg_dvd.2 hx
 refine ⟨fun i j hi hj hij hlt => ?_, fun i hi => ?_, fun i hi i' j' hii hi' hij hj' => ?_⟩
 ·by_cases e : i < t ∨ j < t
  ·rw [hk2.1 i j hi hj e]; exact h.zs i j hi hj hij e
  ·by_cases ei : i = t
   ·subst ei; exact hz i j hj (h2 j (by omega) hj)
   ·have ej : j = t := by omega
    subst ej; exact hz i j hj (h1 i (by omega) hi)
 ·by_cases e : i = t
  ·subst e; exact hpos
  ·rw [hk2.1 i i (by omega) (by omega) (.inl (by omega))]; exact h.pos i (by omega)
 ·by_cases e : i = t
  ·subst e
   by_cases e1 : i' = i
   ·by_cases e2 : j' = i
    ·rw [e1, e2]; exact Int.dvd_refl _
    ·rw [e1, hz i j' hj' (h2 j' (by omega) hj')]; exact Int.dvd_zero _
   ·by_cases e2 : j' = i
    ·rw [e2, hz i' i htC (h1 i' (by omega) hi')]; exact Int.dvd_zero _
    ·rcases hc i' j' hj' with e3 | ⟨e3, _⟩
     ·rw [e3]; exact hdd _ (h3 i' j' (by omega) hi' (by omega) hj')
     ·exact (e1 e3).elim
  ·rw [hk2.1 i i (by omega) (by omega) (.inl (by omega))]
   by_cases e1 : i' < t ∨ j' < t
   ·rw [hk2.1 i' j' hi' hj' e1]; exact h.dv i (by omega) i' j' hii hi' hij hj'
   ·exact hk2.2 _ (fun a b ha ha' hb hb' => h.dv i (by omega) a b (by omega) ha' (by omega) hb') i' j' (by omega) hi' (by omega) hj'
theorem sAll_diag {C R : Nat} {M : Mx} : ∀ {n t : Nat} {s s' : SS}, t + n = min R C → Ss C R s → Both C R M s → Dn C R t s → sAll C R n t s = some s' → Both C R M s' ∧ ∃ k, k ≤ min R C ∧ Dn C R k s' ∧ ∀ i j, k ≤ i → i < R → k ≤ j → j < C → cell s'.1 C i j = 0
 | 0, t, s, s', ht, hs, hB, hD, h => by
  obtain rfl := Option.some.inj h
  exact ⟨hB, t, by omega, hD, fun i j h1 h2 h3 h4 => by omega⟩
 | n + 1, t, s, s', ht, hs, hB, hD, h => by
  simp only [sAll] at h
  split at h
  ·rename_i hl
   obtain rfl := Option.some.inj h
   refine ⟨hB, t, by omega, hD, fun i j h1 h2 h3 h4 => ?_⟩
   rcases leastS_ok s.1 (C := C) (R := R) (t := t) (by omega) (by omega) with ⟨_, h0⟩ | ⟨r, c, h0, _⟩
   ·exact h0 i j ⟨h1, h2, h3, h4⟩
   ·rw [h0] at hl; simp only at hl; omega
  ·rename_i hp
   cases ha : sA C R t s with
   | none => rw [ha] at h; cases h
   | some s1 =>
    rw [ha] at h
    have hs1 := sLoop_ss (show t < R by omega) (by omega) hs (by omega) ha
    obtain ⟨b1, -⟩ := (both_cl C R t M).loop (by omega) (by omega) hs hB (by omega) ha
    obtain ⟨k1, q1, q2, q3, q4⟩ := (keeps_cl hD.zs).loop (by omega) (by omega) hs ⟨fun _ _ _ _ _ => rfl, fun _ h => h⟩ (by omega) ha
    have hB2 : Both C R M (sNeg C R t s1) := by
     unfold sNeg
     split
     ·exact (both_cl C R t M).neg _ _ (Nat.le_refl _) (by omega) hs1 b1
     ·exact b1
    exact sAll_diag (by omega) (sNeg_ss hs1) hB2 (hD.next (by omega) (by omega) hs1 k1 q1 q2 q3 q4) h
theorem smith_diag {m : List Int} {R C : Nat} (hl : m.length = R * C) (hm : NumL m) {s : SS} (h : smith m R C = some s) : Both C R (cell m C) s ∧ ∃ k, k ≤ min R C ∧ Dn C R k s ∧ ∀ i j, k ≤ i → i < R → k ≤ j → j < C → cell s.1 C i j = 0 :=
 sAll_diag (by omega) ⟨hl, idL_len R, idL_len C, hm, idL_num R, idL_num C⟩ ⟨Fct.refl _ _ _, Fct.refl _ _ _⟩ ⟨fun i j _ _ _ h => by omega, fun i h => by omega, fun i h => by omega⟩ h
def dS (L : List Int) : Nat → Int := fun i => L.getD i 0
theorem facP_eq {m : List Int} {C : Nat} : ∀ {n k : Nat}, k ≤ n → (∀ i, i < k → cell m C i i ≠ 0) → (∀ i, k ≤ i → i < n → cell m C i i = 0) → facP m C n = (List.range k).map fun i => cell m C i i
 | 0, k, hk, _, _ => by
  obtain rfl : k = 0 := by omega
  rfl
 | n + 1, k, hk, h1, h2 => by
  by_cases e : k = n + 1
  ·subst e
   rw [facP_yes (h1 n (by omega)), facP_eq (Nat.le_refl n) (fun i hi => h1 i (by omega)) (fun i hi hi' => by omega), List.range_succ, List.map_append]; rfl
  ·rw [facP_no (h2 n (by omega) (by omega))]
   exact facP_eq (by omega) h1 fun i hi hi' => h2 i hi (by omega)
structure Fac (m : Mat) (R C : Nat) (L : List Int) : Prop where
 rows : m.rows = (R : Int)
 cols : m.cols = (C : Int)
 len : m.cells.length = R * C
 le : L.length ≤ min R C
 pos : ∀ i, i < L.length → 0 < dS L i
 dv : ∀ i j, i ≤ j → dS L i ∣ dS L j
 fw : Fct R C (Dg (dS L)) R C (cell m.cells C)
 bw : Fct R C (cell m.cells C) R C (Dg (dS L))
theorem fac_of {m : Mat} (h : facOk m = true) : ∃ R C, Fac m R C (facB m) := by
 cases hB : isMatB m with
 | false => rw [(fac_none (facR_no hB)).1] at h; cases h
 | true =>
  obtain ⟨R, C, hmr, hmc, hR, hC, hl, hnum⟩ := isMatB_shape hB
  obtain ⟨mr, mc, cells⟩ := m
  simp only at hmr hmc hl hnum
  subst hmr
  subst hmc
  cases hs : smith cells R C with
  | none =>
   have := facR_mat hB
   rw [hs] at this
   rw [(fac_none this).1] at h; cases h
  | some s =>
   have h1 := facR_mat hB
   rw [hs] at h1
   have h2 : facB { rows := (R : Int), cols := (C : Int), cells := cells } = facP s.1 C (min R C) := (fac_some h1).2
   obtain ⟨⟨b1, b2⟩, k, hk, hD, hz⟩ := smith_diag hl hnum hs
   have h3 : facP s.1 C (min R C) = (List.range k).map fun i => cell s.1 C i i := facP_eq hk (fun i hi => by have := hD.pos i hi; omega) fun i hi hi' => hz i i hi (by omega) hi (by omega)
   rw [h2, h3]
   have hd : ∀ i, dS ((List.range k).map fun i => cell s.1 C i i) i = if i < k then cell s.1 C i i else 0 := fun i => by
    unfold dS
    rw [List.getD_eq_getElem?_getD, List.getElem?_map]
    by_cases e : i < k
    ·rw [if_pos e, List.getElem?_range e]; rfl
    ·rw [if_neg e, List.getElem?_eq_none (by simp; omega)]; rfl
   have hdg : ∀ i j, i < R → j < C → Dg (dS ((List.range k).map fun i => cell s.1 C i i)) i j = cell s.1 C i j := fun i j hi hj => by
    by_cases e : i = j
    ·subst e
     rw [Dg_self, hd]
     by_cases e2 : i < k
     ·rw [if_pos e2]
     ·rw [if_neg e2, hz i i (by omega) hi (by omega) hj]
    ·rw [Dg_ne e]
     by_cases e2 : i < k ∨ j < k
     ·rw [hD.zs i j hi hj e e2]
     ·rw [hz i j (by omega) hi (by omega) hj]
   refine ⟨R, C, rfl, rfl, hl, by simpa using hk, fun i hi => ?_, fun i j hij => ?_, (Fct.of_eq hdg).trans b1, b2.trans (Fct.of_eq fun i j hi hj => (hdg i j hi hj).symm)⟩
   ·have hi : i < k := by simpa using hi
    rw [hd, if_pos hi]; exact hD.pos i hi
   ·rw [hd, hd]
    by_cases e : j < k
    ·rw [if_pos e, if_pos (by omega)]
     exact hD.dv i (by omega) j j hij (by omega) hij (by omega)
    ·rw [if_neg e]; exact Int.dvd_zero _
theorem dS_ge {L : List Int} {i : Nat} (h : L.length ≤ i) : dS L i = 0 := by
 unfold dS; rw [List.getD_eq_getElem?_getD, List.getElem?_eq_none h]; rfl
theorem dS_inj {L L' : List Int} (h : ∀ i, i < L.length → 0 < dS L i) (h' : ∀ i, i < L'.length → 0 < dS L' i) (e : ∀ i, dS L i = dS L' i) : L = L' := by
 have hl : L.length = L'.length := by
  rcases Nat.lt_trichotomy L.length L'.length with hlt | he | hlt
  ·have h1 := h' _ hlt
   rw [← e, dS_ge (Nat.le_refl _)] at h1; omega
  ·exact he
  ·have h1 := h _ hlt
   rw [e, dS_ge (Nat.le_refl _)] at h1; omega
 refine List.ext_getElem hl fun i h1 h2 => ?_
 have := e i
 unfold dS at this
 rwa [List.getD_eq_getElem?_getD, List.getD_eq_getElem?_getD, List.getElem?_eq_getElem h1, List.getElem?_eq_getElem h2] at this
end Go.Proofs.YtjepiemflpjjhaaGreat

namespace Go.Proofs.YtjepiemflpjjhaaGreat
--BODY
theorem sg_le {T N : Nat} {Z : Mx} (h : ∀ y : Nat → Int, (∀ i, i < T → sm N (fun j => Z i j * y j) = 0) → ∀ j, j < N → y j = 0) : N ≤ T := by
 by_cases hlt : N ≤ T
 ·exact hlt
 ·obtain ⟨y, -, ⟨j, hj, hne⟩, hy⟩ := siegelF T N Z (by omega)
  exact (hne (h y hy j hj)).elim
theorem dot_lin (n k : Nat) (r : Nat → Int) (B : Mx) (y : Nat → Int) : sm n (fun c => r c * sm k fun b => B c b * y b) = sm k fun b => (sm n fun c => r c * B c b) * y b := by
 rw [sm_congr (g := fun c => sm k fun b => r c * B c b * y b) fun c _ => by rw [← sm_mul]; exact sm_congr fun b _ => (Int.mul_assoc _ _ _).symm, sm_swap]
 exact sm_congr fun b _ => sm_mulr _ _ _
structure EcF (m : Mat) (R C T : Nat) (z : List Int) (p : Nat → Nat) : Prop where
 rows : m.rows = (R : Int)
 cols : m.cols = (C : Int)
 len : m.cells.length = R * C
 eq : ecT m = T
 pv : Pvs C R z C T p
 ker : ∀ x : Nat → Int, (∀ i, i < R → sm C (fun k => cell m.cells C i k * x k) = 0) ↔ ∀ i, i < R → sm C (fun k => cell z C i k * x k) = 0
theorem EcF.inj {m : Mat} {R C T : Nat} {z : List Int} {p : Nat → Nat} (h : EcF m R C T z p) {a b : Nat} (ha : a < T) (hb : b < T) (e : p a = p b) : a = b := by
 by_cases hab : a = b
 ·exact hab
 ·have h1 := (h.pv.piv b hb).2.2 a (by have := h.pv.le; omega) hab
  rw [← e] at h1
  exact ((h.pv.piv a ha).2.1 h1).elim
theorem EcF.zero {m : Mat} {R C T : Nat} {z : List Int} {p : Nat → Nat} (h : EcF m R C T z p) {y : Nat → Int} (hz : ∀ i, i < R → sm C (fun c => cell m.cells C i c * sm T fun l => oneM c (p l) * y l) = 0) : ∀ l, l < T → y l = 0 := fun l hl => by
 obtain ⟨q1, q2, q3⟩ := h.pv.piv l hl
 have hle := h.pv.le
 have h1 := (h.ker fun c => sm T fun l => oneM c (p l) * y l).1 hz l (by omega)
 rw [dot_lin] at h1
 have e : ∀ b, b < T → (sm C fun c => cell z C l c * oneM c (p b)) = cell z C l (p b) := fun b hb => by
  have := mm_oneM (n := C) (A := cell z C) (i := l) (j := p b) (h.pv.piv b hb).1
  exact this
 rw [sm_congr (g := fun b => cell z C l (p b) * y b) fun b hb => by rw [e b hb], sm_one hl fun b hb hne => by rw [(h.pv.piv b hb).2.2 l (by omega) (Ne.symm hne), Int.zero_mul]] at h1
 rcases Int.mul_eq_zero.1 h1 with h2 | h2
 ·exact (q2 h2).elim
 ·exact h2
theorem dg_row {R k : Nat} {d : Nat → Int} {A : Mx} {i j : Nat} (hk : k ≤ R) (hd : ∀ a, k ≤ a → d a = 0) : mm R A (Dg d) i j = if j < k then A i j * d j else 0 := by
 unfold mm
 by_cases hj : j < R
 ·rw [sm_one hj fun a _ ha => by rw [Dg_ne ha, Int.mul_zero], Dg_self]
  by_cases e : j < k
  ·rw [if_pos e]
  ·rw [if_neg e, hd j (by omega), Int.mul_zero]
 ·rw [if_neg (by omega)]
  exact sm_zero fun a ha => by rw [Dg_ne (by omega), Int.mul_zero]
theorem ind_le {N T C : Nat} {A B : Mx} (hi : Ind N C A) (h : Rwf N A T C B) : N ≤ T := by
 obtain ⟨X, hX⟩ := h
 refine sg_le (Z := fun k i => X i k) fun y hy => hi y fun j hj => ?_
 rw [sm_congr (g := fun i => y i * mm T X B i j) fun i hi' => by rw [hX i j hi' hj]]
 show mm N (fun _ => y) (mm T X B) 0 j = 0
 rw [← mm_assoc]
 exact sm_zero fun k hk => by
  have : mm N (fun _ => y) X 0 k = 0 := by
   rw [← hy k hk]; exact sm_congr fun i _ => Int.mul_comm _ _
  rw [this, Int.zero_mul]
theorem ind_fac {N C R' C' : Nat} {b : Mx} {m' : Mat} {L : List Int} (hb : Ind N C b) (hF : Fac m' R' C' L) (hf : Fct N C b R' C' (cell m'.cells C')) (hg : Fct R' C' (cell m'.cells C') N C b) : N = L.length := by
 have hle := hF.le
 refine Nat.le_antisymm ?_ ?_
 ·obtain ⟨A, B, hAB⟩ := hf.trans hF.bw
  have : Rwf N b L.length C (fun k j => dS L k * B k j) := ⟨A, fun i j hi hj => by
   rw [hAB i j hi hj]
   show sm C' (fun k => mm R' A (Dg (dS L)) i k * B k j) = _
   rw [sm_ext (show L.length ≤ C' by omega) fun k h1 h2 => by rw [dg_row (show L.length ≤ R' by omega) fun a ha => dS_ge ha, if_neg (by omega), Int.zero_mul]]
   exact sm_congr fun k hk => by rw [dg_row (show L.length ≤ R' by omega) fun a ha => dS_ge ha, if_pos hk, Int.mul_assoc]⟩
  exact ind_le hb this
 ·obtain ⟨A, B, hAB⟩ := hF.fw.trans hg
  refine sg_le (Z := fun k i => A i k) fun y hy => fun j hj => ?_
  have e1 : sm L.length (fun i => y i * Dg (dS L) i j) = 0 := by
   rw [sm_congr (g := fun i => y i * mm C (mm N A b) B i j) fun i hi' => by rw [hAB i j (by omega) (by omega)]]
   show mm L.length (fun _ => y) (mm C (mm N A b) B) 0 j = 0
   rw [← mm_assoc]
   refine sm_zero fun c _ => ?_
   have : mm L.length (fun _ => y) (mm N A b) 0 c = 0 := by
    rw [← mm_assoc]
    refine sm_zero fun k hk => ?_
    have : mm L.length (fun _ => y) A 0 k = 0 := by
     rw [← hy k hk]; exact sm_congr fun i _ => Int.mul_comm _ _
    rw [this, Int.zero_mul]
   rw [this, Int.zero_mul]
  rw [sm_one hj fun i _ hne => by rw [Dg_ne hne, Int.mul_zero], Dg_self] at e1
  rcases Int.mul_eq_zero.1 e1 with h2 | h2
  ·exact h2
  ·have := hF.pos j hj; omega
theorem kern_count {m : Mat} {R N : Nat} {b : List Int} (hk : Kern m R N b) (h : kerOk m = true) : ∃ C t bb, Bas m C t bb ∧ basOk m = true ∧ N + t = R := by
 obtain ⟨C, s, hc, hl, hnum, hC, hh, hbk, hb⟩ := kern_parts hk h
 obtain ⟨hU, W, hw1, hw2⟩ := herm_fact hl hnum hh
 obtain ⟨hs, t, ht, hE⟩ := herm_spec hl hnum hh
 have et := ech_last hE R (Nat.le_refl _) ht
 obtain ⟨Q, hQ, hlQ, hf, hg⟩ := bas_rows hb hbk
 have hQt : Q = R - t := by
  have : (kernM s C R).rows = ((R - lastN s.1 C R : Nat) : Int) := rfl
  rw [this, et] at hQ; omega
 have hcell : ∀ i k, cell (kernM s C R).cells R i k = cell s.2 R (t + i) k := fun i k => by
  show cell (s.2.drop (lastN s.1 C R * R)) R i k = _
  rw [et]; exact cell_drop
 have hB : isMatB m = true := by
  cases hB : isMatB m with
  | true => rfl
  | false =>
   have := (kerB_none (m := m) (by unfold hermR; rw [hB]; rfl)).1
   rw [this] at h; cases h
 have hm : m = { rows := (R : Int), cols := (C : Int), cells := m.cells } := by
  obtain ⟨mr, mc, cells⟩ := m
  have := hk.rows
  simp only at this hc
  rw [this, hc]
 have hB2 := hB
 rw [hm] at hB2
 have hok := (basB_some hB2 hh).1
 rw [← hm] at hok
 obtain ⟨C', N', b', hb'⟩ := bas_of hok
 have hcc := hb'.cols
 obtain rfl : C' = C := by omega
 have e1 := hb'.eq
 rw [hm, (basB_some hB2 hh).2, et] at e1
 have e3 := congrArg Mat.rows e1
 simp only at e3
 obtain rfl : N' = t := by omega
 refine ⟨C', N', b', hb', hok, ?_⟩
 have hK0 : Ind Q R (cell (kernM s C' R).cells R) := fun a ha => by
  intro i hi
  have e0 : mm R (mm Q (fun _ => a) (cell (kernM s C' R).cells R)) (fun r j => W r (N' + j)) 0 i = a i := by
   rw [mm_assoc, mm_congr2 (B' := oneM) fun q hq => ?_, mm_oneM hi]
   have e4 : mm R (cell (kernM s C' R).cells R) (fun r j => W r (N' + j)) q i = mm R (cell s.2 R) W (N' + q) (N' + i) := sm_congr fun r _ => by rw [hcell]
   rw [e4, hw1 (N' + q) (N' + i) (by omega) (by omega)]
   unfold oneM
   by_cases e : q = i
   ·rw [if_pos e, if_pos (by omega)]
   ·rw [if_neg e, if_neg (by omega)]
  rw [← e0]
  exact sm_zero fun r hr => by
   have : mm Q (fun _ => a) (cell (kernM s C' R).cells R) 0 r = 0 := ha r hr
   rw [this, Int.zero_mul]
 have h5 := ind_le hK0 hg
 have h6 := ind_le (bas_ind hb hbk) hf
 omega
--END
end Go.Proofs.YtjepiemflpjjhaaGreat

namespace Go.Proofs.YtjepiemflpjjhaaGreat
open Go.RowKit
--BODY
theorem sm_first (f : Nat → Int) (n : Nat) : sm (n + 1) f = f 0 + sm n fun i => f (i + 1) := by
 rw [Nat.add_comm n 1, sm_split f 1 n]
 show (0 + f 0) + sm n (fun i => f (1 + i)) = _
 rw [Int.zero_add]
 congr 1
 exact sm_congr fun i _ => by rw [Nat.add_comm]
theorem zeroL_at {x : List Int} (h : zeroL x = true) (k : Nat) : vecF x k = 0 := by
 unfold vecF
 rw [List.getD_eq_getElem?_getD]
 cases e : x[k]? with
 | none => rfl
 | some y =>
  unfold zeroL at h
  have := List.all_eq_true.1 h y (List.mem_of_getElem? e)
  simpa using this
theorem coN_span {b : List Int} {C : Nat} : ∀ {n i : Nat} {x out y : List Int}, x.length = C → coN b C n i x out = some y → ∃ qs : List Int, y = out ++ qs ∧ qs.length = n ∧ ∀ k, k < C → vecF x k = sm n fun t => vecF qs t * cell b C (i + t) k
 | 0, i, x, out, y, hl, h => by
  simp only [coN] at h
  split at h
  ·rename_i hz
   obtain rfl := Option.some.inj h
   exact ⟨[], by simp, rfl, fun k _ => zeroL_at hz k⟩
  ·cases h
 | n + 1, i, x, out, y, hl, h => by
  by_cases h0 : coM b C i x = 0
  ·cases hk : nrmOk b C i x (coQ b C i x) with
   | false => rw [coN_no h0 hk] at h; cases h
   | true =>
    rw [coN_yes h0 hk] at h
    obtain ⟨qs, e1, e2, e3⟩ := coN_span (by rw [updR_len]; exact hl) h
    refine ⟨coQ b C i x :: qs, by rw [e1]; simp, by simp [e2], fun k hk' => ?_⟩
    have e4 := e3 k hk'
    have e5 : vecF (updR (nrmV b C i x (coQ b C i x)) 0 C x) k = vecF x k - cell b C i k * coQ b C i x := by
     unfold vecF
     rw [updR_getD (by omega), if_pos (by omega), Nat.sub_zero]; rfl
    rw [sm_first]
    have e6 : sm n (fun t => vecF (coQ b C i x :: qs) (t + 1) * cell b C (i + (t + 1)) k) = sm n fun t => vecF qs t * cell b C (i + 1 + t) k :=
     sm_congr fun t _ => by
      rw [show i + (t + 1) = i + 1 + t by omega]; rfl
    rw [e6, ← e4, e5]
    show vecF x k = coQ b C i x * cell b C (i + 0) k + _
    rw [Nat.add_zero, Int.mul_comm (coQ b C i x)]; omega
  ·rw [coN_mod h0] at h; cases h
theorem coL_span {l : Mat} {C N : Nat} (hL : Lat l C N) {v : List Int} (hv : v.length = C) (h : coOk l v = true) : (coL l v).length = N ∧ ∀ k, k < C → vecF v k = sm N fun t => vecF (coL l v) t * cell l.cells C t k := by
 obtain ⟨x, hx⟩ := Option.isSome_iff_exists.1 (show (coR l v).isSome = true from h)
 rw [(co_some hx).2]
 cases hin : coIn l v with
 | false => rw [coR_no hin] at hx; cases hx
 | true =>
  rw [coR_yes hL hin] at hx
  obtain ⟨qs, e1, e2, e3⟩ := coN_span hv hx
  rw [List.nil_append] at e1
  subst e1
  exact ⟨e2, fun k hk => by rw [e3 k hk]; exact sm_congr fun t _ => by rw [Nat.zero_add]⟩
theorem cmC_cell {l s : Mat} {C N C' N' : Nat} (hL : Lat l C N) (hS : Lat s C' N') : ∀ {n : Nat}, (∀ i, i < n → coOk l (rowL s.cells C' i) = true) → ∀ i j, i < n → j < N → cell (cmC l s n) N i j = vecF (coL l (rowL s.cells C' i)) j
 | 0, _, i, j, hi, _ => by omega
 | n + 1, h, i, j, hi, hj => by
  have hlen := (cmC_spec (n := n) hL hS fun i hi => h i (by omega)).2
  rw [cmC_succ hS]
  by_cases e : i = n
  ·subst e
   have := cell_app2 (a := cmC l s i) (b := coL l (rowL s.cells C' i)) (C := N) (R := i) (i := 0) (k := j) hlen
   rw [Nat.add_zero] at this
   rw [this]
   unfold cell vecF
   rw [Nat.zero_mul, Nat.zero_add]
  ·rw [cell_app1 (R := n) hlen (by omega) hj]
   exact cmC_cell hL hS (fun i hi => h i (by omega)) i j (by omega) hj
theorem cm_parts {l s : Mat} (h : cmOk l s = true) : ∃ C N N', Lat l C N ∧ Lat s C N' ∧ (cmB l s).rows = ((N' : Nat) : Int) ∧ (cmB l s).cols = ((N : Nat) : Int) ∧ ∀ i k, i < N' → k < C → cell s.cells C i k = mm N (cell (cmB l s).cells N) (cell l.cells C) i k := by
 have h0 := h
 unfold cmOk at h
 rw [Bool.and_eq_true] at h
 obtain ⟨h1, h2⟩ := h
 have h1' := h1
 unfold cmIs at h1'
 rw [Bool.and_eq_true, Bool.and_eq_true, decide_eq_true_eq] at h1'
 obtain ⟨C, N, hL⟩ := lat_of h1'.1
 obtain ⟨C', N', hS⟩ := lat_of h1'.2.1
 obtain rfl : C' = C := by have := hL.cols; have := hS.cols; omega
 have ha : ∀ i, i < N' → coOk l (rowL s.cells C' i) = true := fun i hi => by
  unfold cmAll at h2
  rw [hS.rows, hS.cols] at h2
  have := all_at h2 (show i < ((N' : Nat) : Int).toNat by simpa using hi)
  simpa using this
 have hy := (cm_yes hS h1 ha).2
 refine ⟨C', N, N', hL, hS, by rw [hy], by rw [hy]; exact hL.rows, fun i k hi hk => ?_⟩
 rw [hy]
 have hrl := rowL_len hS.len hi
 have h3 := (coL_span hL hrl (ha i hi)).2 k hk
 rw [row_vec hS.len hi k hk] at h3
 rw [h3]
 exact sm_congr fun t ht => by rw [cmC_cell hL hS ha i t hi ht]
noncomputable def quF (m0 m1 : Mat) : List Int := facB (cmB (kerB m0) (basB m1))
theorem qu_parts {m0 m1 : Mat} (hk : kerOk m0 = true) (hb : basOk m1 = true) (hq : quOk (kerB m0) (basB m1) = true) :
  ∃ (C0 t NK R1 C1 Rx Cx : Nat) (bb : List Int), Bas m0 C0 t bb ∧ basOk m0 = true ∧ m0.rows = ((NK + t : Nat) : Int) ∧ C1 = NK + t ∧ quN (kerB m0) (basB m1) = (NK : Int) - (quF m0 m1).length ∧ quB (kerB m0) (basB m1) = gt1 (quF m0 m1) ∧
   m1.rows = (R1 : Int) ∧ m1.cols = (C1 : Int) ∧ m1.cells.length = R1 * C1 ∧ Fac (cmB (kerB m0) (basB m1)) Rx Cx (quF m0 m1) ∧ Fct Rx Cx (cell (cmB (kerB m0) (basB m1)).cells Cx) R1 C1 (cell m1.cells C1) ∧ Fct R1 C1 (cell m1.cells C1) Rx Cx (cell (cmB (kerB m0) (basB m1)).cells Cx) := by
 obtain ⟨R, N, b, hK⟩ := kern_of hk
 obtain ⟨C0, t, bb, hbb, hbo, hNt⟩ := kern_count hK hk
 obtain ⟨C1, N1, b1, hb1⟩ := bas_of hb
 obtain ⟨R1, hr1, hl1, hf, hg⟩ := bas_rows hb1 hb
 obtain ⟨q1, q2, q3⟩ := qu_yes hq
 have hq' := hq
 unfold quOk at hq'
 rw [Bool.and_eq_true] at hq'
 obtain ⟨hcm, hfo⟩ := hq'
 obtain ⟨C, NK, NB, hL, hS, c1, c2, c3⟩ := cm_parts hcm
 obtain ⟨Rx, Cx, hF⟩ := fac_of hfo
 have e1 := hL.rows; have e2 := hL.cols; have e3 := hS.rows; have e4 := hS.cols
 rw [hK.eq] at e1 e2
 rw [hb1.eq] at e3 e4
 simp only at e1 e2 e3 e4
 obtain rfl : NK = N := by omega
 obtain rfl : C = R := by omega
 obtain rfl : NB = N1 := by omega
 obtain rfl : C1 = C := by omega
 obtain rfl : Rx = NB := by have := hF.rows; omega
 obtain rfl : Cx = NK := by have := hF.cols; omega
 obtain ⟨-, -, -, -, -, ⟨W, hW⟩, -⟩ := kern_fact hK hk
 have ek : (kerB m0).cells = b := by rw [hK.eq]
 have eb : (basB m1).cells = b1 := by rw [hb1.eq]
 rw [ek, eb] at c3
 refine ⟨C0, t, Cx, R1, C1, Rx, Cx, bb, hbb, hbo, by rw [hK.rows]; omega, by omega, ?_, q3, hr1, hb1.cols, hl1, hF, ?_, ?_⟩
 ·have e5 : (kerB m0).rows = (Cx : Int) := by rw [hK.eq]
  rw [q2, e5]; rfl
 ·-- the coordinates are B W
  obtain ⟨A, hA⟩ := hf
  refine ⟨A, W, fun i j hi hj => ?_⟩
  have e5 : mm C1 (mm Cx (cell (cmB (kerB m0) (basB m1)).cells Cx) (cell b C1)) W i j = cell (cmB (kerB m0) (basB m1)).cells Cx i j := by
   rw [mm_assoc, mm_congr2 (B' := oneM) fun k hk' => hW k j hk' hj, mm_oneM hj]
  rw [← e5]
  refine mm_congr1 fun k hk' => ?_
  rw [← c3 i k hi hk', hA i k hi hk']
 ·obtain ⟨Y, hY⟩ := hg
  refine ⟨Y, cell b C1, fun i j hi hj => ?_⟩
  rw [hY i j hi hj, mm_congr2 (B' := mm Cx (cell (cmB (kerB m0) (basB m1)).cells Cx) (cell b C1)) fun k hk' => c3 k j hk' hj, ← mm_assoc]
theorem hom_parts {l : List (List Int)} {k : Int} (h : mqOk (homIs l k) (cycB l k) (bndB l k) = true) :
  0 ≤ k ∧ k ≤ 3 ∧ boundOk l k = true ∧ boundOk l (k + 1) = true ∧ kerOk (boundB l k) = true ∧ basOk (boundB l (k + 1)) = true ∧ quOk (kerB (boundB l k)) (basB (boundB l (k + 1))) = true ∧
   mqN (homIs l k) (cycB l k) (bndB l k) = quN (kerB (boundB l k)) (basB (boundB l (k + 1))) ∧ mqB (homIs l k) (cycB l k) (bndB l k) = quB (kerB (boundB l k)) (basB (boundB l (k + 1))) := by
 unfold mqOk at h
 rw [Bool.and_eq_true] at h
 obtain ⟨h1, h2⟩ := h
 have h1' := h1
 unfold homIs cycOk bndOk bndIs at h1'
 simp only [Bool.and_eq_true] at h1'
 obtain ⟨⟨a1, a2⟩, ⟨a3, a4⟩, a5⟩ := h1'
 have hin := inB_iff.1 a4
 have hw : wrap64 (k + 1) = k + 1 := by unfold wrap64; omega
 rw [hw] at a3 a5
 have ec : cycB l k = kerB (boundB l k) := by unfold cycB; rw [if_pos a1]
 have eb : bndB l k = basB (boundB l (k + 1)) := by
  unfold bndB bndIs
  rw [hw, a3, a4]; rfl
 rw [ec, eb] at h2 ⊢
 obtain ⟨-, m2, m3⟩ := mq_yes (a := kerB (boundB l k)) (b := basB (boundB l (k + 1))) h1
 exact ⟨by omega, by omega, a1, a3, a2, a5, h2, m2, m3⟩
noncomputable def homY (l : List (List Int)) (k : Int) : Bool := mqOk (homIs l k) (cycB l k) (bndB l k)
noncomputable def homN (l : List (List Int)) (k : Int) : Int := mqN (homIs l k) (cycB l k) (bndB l k)
noncomputable def homL (l : List (List Int)) (k : Int) : List Int := mqB (homIs l k) (cycB l k) (bndB l k)
end Go.Proofs.YtjepiemflpjjhaaGreat

namespace Go.Proofs.YtjepiemflpjjhaaGreat
open Go.RowKit
--BODY
structure Chn (L : List Int) : Prop where
 pos : ∀ i, i < L.length → 0 < dS L i
 dv : ∀ i j, i ≤ j → dS L i ∣ dS L j
theorem Fac.chn {m : Mat} {R C : Nat} {L : List Int} (h : Fac m R C L) : Chn L := ⟨h.pos, h.dv⟩
theorem chn_same {L L' : List Int} {R C R' C' : Nat} (h : Chn L) (h' : Chn L') (hl : L.length ≤ min R C) (hl' : L'.length ≤ min R' C') (hf : Fct R' C' (Dg (dS L')) R C (Dg (dS L))) (hg : Fct R C (Dg (dS L)) R' C' (Dg (dS L'))) : L = L' := by
 have nn : ∀ {L : List Int}, Chn L → ∀ i, 0 ≤ dS L i := fun {L} hc i => by
  by_cases e : i < L.length
  ·exact Int.le_of_lt (hc.pos i e)
  ·rw [dS_ge (by omega)]; exact Int.le_refl _
 have dd : ∀ {L L' : List Int} {R C R' C' : Nat}, Chn L → Chn L' → L'.length ≤ min R' C' → Fct R' C' (Dg (dS L')) R C (Dg (dS L)) → ∀ i, dS L i ∣ dS L' i := fun {L L' R C R' C'} h h' hl hf i => by
  by_cases hi : i < L'.length
  ·exact fct_dvd h.dv h'.dv hf (by omega) (by omega)
  ·rw [dS_ge (L := L') (by omega)]; exact Int.dvd_zero _
 exact dS_inj h.pos h'.pos fun i => Int.dvd_antisymm (nn h i) (nn h' i) (dd h h' hl' hf i) (dd h' h hl hg i)
def skip (r i : Nat) : Nat := if i < r then i else i + 1
def Sm (R C : Nat) (M : Mx) (L : List Int) : Prop := Chn L ∧ ∃ R' C', L.length ≤ min R' C' ∧ Fct R C M R' C' (Dg (dS L)) ∧ Fct R' C' (Dg (dS L)) R C M
theorem Sm.of {R C R' C' : Nat} {M M' : Mx} {L : List Int} (h : Sm R C M L) (hf : Fct R' C' M' R C M) (hg : Fct R C M R' C' M') : Sm R' C' M' L := by
 obtain ⟨c, R1, C1, l1, f1, g1⟩ := h
 exact ⟨c, R1, C1, l1, hf.trans f1, g1.trans hg⟩
def Rk (R C : Nat) (M : Mx) (r : Nat) : Prop := ∃ (C' : Nat) (b : Mx), Ind r C' b ∧ Fct r C' b R C M ∧ Fct R C M r C' b
theorem Rk.of {R C R' C' : Nat} {M M' : Mx} {r : Nat} (h : Rk R C M r) (hf : Fct R' C' M' R C M) (hg : Fct R C M R' C' M') : Rk R' C' M' r := by
 obtain ⟨C1, b1, i1, f1, g1⟩ := h
 exact ⟨C1, b1, i1, f1.trans hg, hf.trans g1⟩
end Go.Proofs.YtjepiemflpjjhaaGreat

namespace Go.Proofs.YtjepiemflpjjhaaGreat
open Go.RowKit
--BODY
theorem pr_tmod {p : Int} (h : prB p = true) {d : Nat} (h2 : 2 ≤ d) (hd : (d : Int) * d ≤ p) : p.tmod (d : Int) ≠ 0 := fun e => by
 have := prB_no h2 hd (prB_rng h).2 e
 rw [this] at h; cases h
theorem pr_dvd {p : Int} (h : prB p = true) {g : Nat} (hg : (g : Int) ∣ p) : g = 1 ∨ (g : Int) = p := by
 have hr := prB_rng h
 obtain ⟨q, hq⟩ := hg
 have hg0 : g ≠ 0 := fun e => by rw [e] at hq; simp at hq; omega
 have hq0 : 0 < q := by
  rcases Int.lt_trichotomy q 0 with e | e | e
  ·have : (g : Int) * q ≤ 0 := Int.mul_nonpos_of_nonneg_of_nonpos (by omega) (by omega)
   omega
  ·rw [e] at hq; simp at hq; omega
  ·exact e
 obtain ⟨q, rfl⟩ := Int.eq_ofNat_of_zero_le (Int.le_of_lt hq0)
 by_cases g1 : g = 1
 ·exact .inl g1
 ·by_cases q1 : q = 1
  ·rw [q1] at hq; exact .inr (by omega)
  ·exfalso
   by_cases hle : g ≤ q
   ·refine pr_tmod h (d := g) (by omega) ?_ (Int.tmod_eq_zero_of_dvd ⟨q, hq⟩)
    rw [hq]
    exact Int.mul_le_mul_of_nonneg_left (by omega) (by omega)
   ·refine pr_tmod h (d := q) (by omega) ?_ (Int.tmod_eq_zero_of_dvd ⟨g, by rw [hq, Int.mul_comm]⟩)
    rw [hq]
    exact Int.mul_le_mul_of_nonneg_right (by omega) (by omega)
theorem pr_coprime {p a : Int} (h : prB p = true) (ha : ¬ p ∣ a) : Nat.gcd a.natAbs p.natAbs = 1 := by
 have hr := prB_rng h
 rcases pr_dvd h (g := Nat.gcd a.natAbs p.natAbs) (by
  have := Nat.gcd_dvd_right a.natAbs p.natAbs
  have h2 := Int.ofNat_dvd.2 this
  rw [Int.natAbs_of_nonneg (by omega : 0 ≤ p)] at h2
  exact h2) with e | e
 ·exact e
 ·exfalso
  apply ha
  have h3 := Nat.gcd_dvd_left a.natAbs p.natAbs
  have h4 := Int.ofNat_dvd.2 h3
  rw [e] at h4
  exact Int.dvd_natAbs.1 h4
theorem pr_mul {p a b : Int} (h : prB p = true) (hd : p ∣ a * b) : p ∣ a ∨ p ∣ b := by
 by_cases ha : p ∣ a
 ·exact .inl ha
 ·refine .inr (Int.natAbs_dvd_natAbs.1 ?_)
  have hc : Nat.Coprime p.natAbs a.natAbs := by
   show Nat.gcd p.natAbs a.natAbs = 1
   rw [Nat.gcd_comm]; exact pr_coprime h ha
  refine hc.dvd_of_dvd_mul_left ?_
  rw [← Int.natAbs_mul]
  exact Int.natAbs_dvd_natAbs.2 hd
theorem egL_inv {a p : Int} : ∀ {n : Nat} {g h x u : Int}, (h.toNat < n) → 0 < g → g ≤ 10000 → 0 ≤ h → h ≤ 10000 → (x.natAbs : Int) * h + (u.natAbs : Int) * g ≤ 10000 → p ∣ a * x - g → p ∣ a * u - h → ∃ y e : Int, egL n g h x u = y ∧ 0 < e ∧ p ∣ a * y - e ∧ (e.toNat = Nat.gcd g.toNat h.toNat)
 | 0, _, _, _, _, hn, _, _, _, _, _, _, _ => by omega
 | n + 1, g, h, x, u, hn, hg, hg2, hh, hh2, hb, hx, hu => by
  by_cases h0 : h = 0
  ·subst h0
   exact ⟨x, g, egL_end _ _ _ _, hg, hx, by simp⟩
  ·have hh' : 0 < h := by omega
   obtain ⟨e1, e2, e3⟩ := egN_eq (g := g) (h := h) ⟨by omega, hg2⟩ ⟨hh', hh2⟩
   have hm := Int.emod_add_mul_ediv g h
   have h5 := Int.emod_nonneg g (show h ≠ 0 by omega)
   have h7 := Int.emod_lt_of_pos g hh'
   have hxa : (x.natAbs : Int) * h ≤ 10000 := by
    have : 0 ≤ (u.natAbs : Int) * g := Int.mul_nonneg (by omega) (by omega)
    omega
   have hua : (u.natAbs : Int) ≤ 10000 := by
    have h8 : (u.natAbs : Int) * 1 ≤ (u.natAbs : Int) * g := Int.mul_le_mul_of_nonneg_left (by omega) (by omega)
    have : 0 ≤ (x.natAbs : Int) * h := Int.mul_nonneg (by omega) (by omega)
    omega
   have hxb : (x.natAbs : Int) ≤ 10000 := by
    have h8 : (x.natAbs : Int) * 1 ≤ (x.natAbs : Int) * h := Int.mul_le_mul_of_nonneg_left (by omega) (by omega)
    omega
   have hqu : ((g / h * u).natAbs : Int) ≤ 10000 * 10000 := by
    rw [Int.natAbs_mul]
    have h8 : ((g / h).natAbs * u.natAbs) ≤ 10000 * 10000 := Nat.mul_le_mul (by omega) (by omega)
    omega
   have hw : egU x u (g / h) = x - g / h * u := by
    unfold egU
    have h9 : wrap64 (g / h * u) = g / h * u := by unfold wrap64; omega
    rw [h9]
    unfold wrap64; omega
   rw [egL_step h0, e1, hw]
   have hb2 : (u.natAbs : Int) * (g % h) + ((x - g / h * u).natAbs : Int) * h ≤ 10000 := by
    have h8 : ((x - g / h * u).natAbs : Int) ≤ (x.natAbs : Int) + (g / h) * (u.natAbs : Int) := by
     have h10 : ((g / h * u).natAbs : Int) = (g / h) * (u.natAbs : Int) := by
      rw [Int.natAbs_mul]; push_cast
      rw [Int.natAbs_of_nonneg e2]
     rw [← h10]; omega
    have h9 : ((x - g / h * u).natAbs : Int) * h ≤ ((x.natAbs : Int) + (g / h) * (u.natAbs : Int)) * h := Int.mul_le_mul_of_nonneg_right h8 (by omega)
    have h10 : (u.natAbs : Int) * g = (u.natAbs : Int) * (g % h) + (g / h) * (u.natAbs : Int) * h := by
     conv => lhs; rw [← hm]
     rw [Int.mul_add, ← Int.mul_assoc, Int.mul_comm _ (g / h), ← Int.mul_assoc, Int.mul_comm (g / h * (u.natAbs : Int)) h]
    rw [Int.add_mul] at h9
    omega
   have hv : p ∣ a * (x - g / h * u) - g % h := by
    have h11 : a * (x - g / h * u) - g % h = (a * x - g) - g / h * (a * u - h) := by
     have h12 : g % h = g - h * (g / h) := by omega
     rw [h12, Int.mul_sub, Int.mul_sub]
     rw [← Int.mul_assoc a, Int.mul_comm a (g / h), Int.mul_assoc, Int.mul_comm h]
     omega
    rw [h11]
    exact Int.dvd_sub hx (Int.dvd_trans hu (Int.dvd_mul_left _ _))
   obtain ⟨y, e, r1, r2, r3, r4⟩ := egL_inv (n := n) (g := h) (h := g % h) (x := u) (u := x - g / h * u) (by omega) hh' hh2 h5 (by omega) hb2 hu hv
   refine ⟨y, e, r1, r2, r3, ?_⟩
   rw [r4]
   have h13 : (g % h).toNat = g.toNat % h.toNat := by
    obtain ⟨g', rfl⟩ := Int.eq_ofNat_of_zero_le (Int.le_of_lt hg)
    obtain ⟨h', rfl⟩ := Int.eq_ofNat_of_zero_le hh
    simp only [Int.toNat_natCast]
    rw [← Int.natCast_emod, Int.toNat_natCast]
   rw [h13, Nat.gcd_comm h.toNat, ← Nat.gcd_rec, Nat.gcd_comm]
theorem invX_mul {a p : Int} (h : prB p = true) (ha : 0 < a) (hap : a < p) : (a * invX a p) % p = 1 := by
 have hr := prB_rng h
 obtain ⟨y, e, h1, h2, h3, h4⟩ := egL_inv (a := a) (p := p) (n := p.toNat + 1) (g := a) (h := p) (x := 1) (u := 0) (by omega) ha (by omega) (by omega) hr.2 (by simp; omega) (by simp) (by
  rw [Int.mul_zero, Int.zero_sub]; exact Int.dvd_neg.2 (Int.dvd_refl _))
 have hnd : ¬ p ∣ a := fun hd => by have := Int.le_of_dvd ha hd; omega
 have hg := pr_coprime h hnd
 have e1 : e = 1 := by
  have h5 : Nat.gcd a.toNat p.toNat = 1 := by
   have e2 : a.toNat = a.natAbs := by omega
   have e3 : p.toNat = p.natAbs := by omega
   rw [e2, e3]; exact hg
  rw [h5] at h4; omega
 rw [e1] at h3
 unfold invX
 rw [h1]
 rw [Int.mul_emod, Int.emod_emod, ← Int.mul_emod]
 obtain ⟨q, hq⟩ := h3
 have : a * y = 1 + p * q := by omega
 rw [this, Int.add_mul_emod_self_left, Int.emod_eq_of_lt (by omega) (by omega)]
def SpP (p : Int) (R C : Nat) (M : Mx) (v : Nat → Int) : Prop := ∃ a : Nat → Int, ∀ j, j < C → p ∣ v j - sm R fun i => a i * M i j
theorem SpP.row {p : Int} {R C : Nat} {M : Mx} {i : Nat} (hi : i < R) {v : Nat → Int} (h : ∀ j, j < C → p ∣ v j - M i j) : SpP p R C M v :=
 ⟨oneM i, fun j hj => by
  have : (sm R fun q => oneM i q * M q j) = M i j := oneM_mm hi
  rw [this]; exact h j hj⟩
theorem SpP.comb {p : Int} {R C : Nat} {M : Mx} {u v x : Nat → Int} (h : SpP p R C M u) (h' : SpP p R C M v) (a b : Int) (e : ∀ j, j < C → p ∣ x j - (a * u j + b * v j)) : SpP p R C M x := by
 obtain ⟨f, hf⟩ := h
 obtain ⟨g, hg⟩ := h'
 refine ⟨fun i => a * f i + b * g i, fun j hj => ?_⟩
 have e1 : (sm R fun i => (a * f i + b * g i) * M i j) = a * (sm R fun i => f i * M i j) + b * sm R fun i => g i * M i j := by
  rw [← sm_mul, ← sm_mul, ← sm_add]
  exact sm_congr fun i _ => by rw [Int.add_mul, Int.mul_assoc, Int.mul_assoc]
 rw [e1]
 have e2 : x j - (a * (sm R fun i => f i * M i j) + b * sm R fun i => g i * M i j) = (x j - (a * u j + b * v j)) + (a * (u j - sm R fun i => f i * M i j) + b * (v j - sm R fun i => g i * M i j)) := by
  rw [Int.mul_sub, Int.mul_sub]; omega
 rw [e2]
 exact Int.dvd_add (e j hj) (Int.dvd_add (Int.dvd_trans (hf j hj) (Int.dvd_mul_left _ _)) (Int.dvd_trans (hg j hj) (Int.dvd_mul_left _ _)))
theorem sm_sub (f g : Nat → Int) (n : Nat) : sm n f - sm n g = sm n fun i => f i - g i := by
 rw [Int.sub_eq_add_neg, ← sm_neg, ← sm_add]
 exact sm_congr fun i _ => (Int.sub_eq_add_neg).symm
def RwP (p : Int) (R' : Nat) (M' : Mx) (R C : Nat) (M : Mx) : Prop := ∃ A : Mx, ∀ i j, i < R' → j < C → p ∣ M' i j - mm R A M i j
theorem RwP.of_rows {p : Int} {R' R C : Nat} {M M' : Mx} (h : ∀ i, i < R' → SpP p R C M (M' i)) : RwP p R' M' R C M := by
 have h2 : ∀ i, ∃ a : Nat → Int, i < R' → ∀ j, j < C → p ∣ M' i j - sm R fun q => a q * M q j := fun i => by
  by_cases hi : i < R'
  ·obtain ⟨a, ha⟩ := h i hi; exact ⟨a, fun _ => ha⟩
  ·exact ⟨fun _ => 0, fun h => (hi h).elim⟩
 exact ⟨fun i => (h2 i).choose, fun i j hi hj => (h2 i).choose_spec hi j hj⟩
theorem mm_dvd {p : Int} {n : Nat} {A M M' : Mx} {i j : Nat} (h : ∀ k, k < n → p ∣ M k j - M' k j) : p ∣ mm n A M i j - mm n A M' i j := by
 unfold mm
 rw [sm_sub]
 exact sm_dvd fun k hk => by rw [← Int.mul_sub]; exact Int.dvd_trans (h k hk) (Int.dvd_mul_left _ _)
theorem dvd_tr {p x y z : Int} (h : p ∣ x - y) (h' : p ∣ y - z) : p ∣ x - z := by
 have : x - z = (x - y) + (y - z) := by omega
 rw [this]; exact Int.dvd_add h h'
theorem dvd_sy {p x y : Int} (h : p ∣ x - y) : p ∣ y - x := by
 have : y - x = -(x - y) := by omega
 rw [this]; exact Int.dvd_neg.2 h
theorem RwP.trans {p : Int} {R1 R2 R3 C : Nat} {M1 M2 M3 : Mx} (h : RwP p R1 M1 R2 C M2) (h' : RwP p R2 M2 R3 C M3) : RwP p R1 M1 R3 C M3 := by
 obtain ⟨A, h⟩ := h
 obtain ⟨A', h'⟩ := h'
 refine ⟨mm R2 A A', fun i j hi hj => dvd_tr (h i j hi hj) ?_⟩
 rw [mm_assoc]
 exact mm_dvd fun k hk => h' k j hk hj
theorem RwP.of_eq {p : Int} {R C : Nat} {M M' : Mx} (h : ∀ i j, i < R → j < C → p ∣ M' i j - M i j) : RwP p R M' R C M := RwP.of_rows fun i hi => SpP.row hi fun j hj => h i j hi hj
theorem mod_dvd (x p : Int) : p ∣ x % p - x := by
 have := Int.emod_add_mul_ediv x p
 exact ⟨-(x / p), by rw [Int.mul_neg]; omega⟩
theorem elM1_cell {m : List Int} {C R t k i c : Nat} (hl : m.length = R * C) (ht : t < R) (hk : k < R) (hc : c < C) : cell (elM1 m C t k) C i c = if i = k then cell m C t c else if i = t then cell m C k c else cell m C i c := by
 unfold elM1
 by_cases e : k = t
 ·subst e
  rw [if_pos rfl]
  split
  ·rename_i e; rw [e]
  ·rfl
 ·rw [if_neg e]; exact cell_swR hl hk ht e hc
theorem elM2_cell {m : List Int} {C R t j i c : Nat} {p : Int} (hl : m.length = R * C) (ht : t < R) (hc : c < C) : cell (elM2 m C t j p) C i c = if i = t then (cell m C t c * invX (cell m C t j) p) % p else cell m C i c := cell_upd hl ht hc
theorem elR_cell {p : Int} {C R j t : Nat} {m : List Int} (hl : m.length = R * C) (ht : t < R) (hj : j < C) : ∀ {n : Nat}, n ≤ R → ∀ i c, c < C → cell (elR p C j t n m) C i c = if i < n ∧ i ≠ t then (cell m C i c - cell m C i j * cell m C t c) % p else cell m C i c
 | 0, _, i, c, _ => by rw [if_neg (by omega)]; rfl
 | n + 1, hn, i, c, hc => by
  by_cases e : n = t
  ·rw [elR_self e, elR_cell hl ht hj (by omega) i c hc]
   have : (i < n + 1 ∧ i ≠ t) ↔ (i < n ∧ i ≠ t) := by omega
   simp only [this]
  ·rw [elR_upd e, cell_upd (by rw [elR_len]; exact hl) (by omega) hc]
   by_cases e2 : i = n
   ·subst e2
    rw [if_pos rfl, if_pos ⟨by omega, e⟩]
    unfold elV2
    rw [elR_cell hl ht hj (by omega) i c hc, elR_cell hl ht hj (by omega) i j hj, elR_cell hl ht hj (by omega) t c hc, if_neg (by omega), if_neg (by omega), if_neg (by omega)]
   ·rw [if_neg e2, elR_cell hl ht hj (by omega) i c hc]
    have : (i < n + 1 ∧ i ≠ t) ↔ (i < n ∧ i ≠ t) := by omega
    simp only [this]
structure PvP (C R : Nat) (m : List Int) (j t : Nat) (q : Nat → Nat) : Prop where
 len : m.length = R * C
 le : t ≤ R
 piv : ∀ l, l < t → q l < j ∧ cell m C l (q l) = 1 ∧ ∀ i, i < R → i ≠ l → cell m C i (q l) = 0
 low : ∀ i, t ≤ i → i < R → ∀ k, k < j → cell m C i k = 0
theorem elS_spec {p : Int} (hpr : prB p = true) {C R j t k : Nat} {m : List Int} {q : Nat → Nat} (hm : ResL p m) (hj : j < C) (htR : t < R) (hk : t ≤ k ∧ k < R) (hne : cell m C k j ≠ 0) (hP : PvP C R m j t q) :
  ResL p (elS p C R j t k m) ∧ PvP C R (elS p C R j t k m) (j + 1) (t + 1) (fun l => if l = t then j else q l) ∧ RwP p R (cell (elS p C R j t k m) C) R C (cell m C) ∧ RwP p R (cell m C) R C (cell (elS p C R j t k m) C) := by
 have hp := (prB_rng hpr).1
 have hl := hP.len
 have hl1 : (elM1 m C t k).length = R * C := by rw [elM1_len]; exact hl
 have hl2 : (elM2 (elM1 m C t k) C t j p).length = R * C := by rw [elM2_len]; exact hl1
 have c1 : ∀ i c, c < C → cell (elM1 m C t k) C i c = if i = k then cell m C t c else if i = t then cell m C k c else cell m C i c := fun i c hc => elM1_cell hl htR hk.2 hc
 have hres1 := elM1_res (C := C) (t := t) (k := k) hp hm
 have hpiv : cell (elM1 m C t k) C t j = cell m C k j := by
  rw [c1 t j hj]
  by_cases e : t = k
  ·rw [if_pos e, e]
  ·rw [if_neg e, if_pos rfl]
 obtain ⟨x, hx⟩ : ∃ x, x = invX (cell m C k j) p := ⟨_, rfl⟩
 have hinv : (cell m C k j * x) % p = 1 := by
  have := res_cell hp hm C k j
  rw [hx]; exact invX_mul hpr (by omega) this.2
 obtain ⟨v, hv⟩ : ∃ v : Nat → Int, v = fun c => (cell (elM1 m C t k) C t c * x) % p := ⟨_, rfl⟩
 have hS : ∀ i c, i < R → c < C → cell (elS p C R j t k m) C i c = if i = t then v c else (cell (elM1 m C t k) C i c - cell (elM1 m C t k) C i j * v c) % p := fun i c hi hc => by
  unfold elS
  rw [elR_cell hl2 htR hj (Nat.le_refl _) i c hc]
  by_cases e : i = t
  ·subst e
   rw [if_neg (by omega), if_pos rfl, elM2_cell hl1 htR hc, if_pos rfl, hpiv, hv, hx]
  ·rw [if_pos ⟨hi, e⟩, if_neg e, elM2_cell hl1 htR hc, if_neg e, elM2_cell hl1 htR hj, if_neg e, elM2_cell hl1 htR hc, if_pos rfl, hpiv, hv, hx]
 have hvj : v j = 1 := by rw [hv]; simp only; rw [hpiv]; exact hinv
 have hlow : ∀ c, c < j → v c = 0 := fun c hc => by
  rw [hv]; simp only
  have : cell (elM1 m C t k) C t c = 0 := by
   rw [c1 t c (by omega)]
   split
   ·exact hP.low t (Nat.le_refl _) htR c hc
   ·rw [if_pos rfl]; exact hP.low k hk.1 hk.2 c hc
  rw [this, Int.zero_mul]; rfl
 have hold : ∀ i c, i < R → c < j → cell (elS p C R j t k m) C i c = cell (elM1 m C t k) C i c := fun i c hi hc => by
  rw [hS i c hi (by omega)]
  by_cases e : i = t
  ·subst e
   rw [if_pos rfl, hlow c hc, c1 i c (by omega)]
   split
   ·exact (hP.low i (Nat.le_refl _) htR c hc).symm
   ·rw [if_pos rfl]; exact (hP.low k hk.1 hk.2 c hc).symm
  ·rw [if_neg e, hlow c hc, Int.mul_zero, Int.sub_zero]
   have := res_cell hp hres1 C i c
   exact mod_small this.1 this.2
 refine ⟨elR_res hp (elM2_res hp hres1) R, ⟨by unfold elS; rw [elR_len]; exact hl2, by omega, fun l hlt => ?_, fun i h1 h2 c hc => ?_⟩, ?_, ?_⟩
 ·by_cases e : l = t
  ·subst e
   rw [if_pos rfl]
   refine ⟨by omega, by rw [hS l j htR hj, if_pos rfl]; exact hvj, fun i hi hne2 => ?_⟩
   rw [hS i j hi hj, if_neg hne2, hvj, Int.mul_one, Int.sub_self]; rfl
  ·rw [if_neg e]
   obtain ⟨a1, a2, a3⟩ := hP.piv l (by omega)
   refine ⟨by omega, ?_, fun i hi hne2 => ?_⟩
   ·rw [hold l _ (by omega) a1, c1 l _ (by omega), if_neg (by omega), if_neg e]; exact a2
   ·rw [hold i _ hi a1, c1 i _ (by omega)]
    split
    ·exact a3 t htR (by omega)
    ·split
     ·exact a3 k hk.2 (by omega)
     ·exact a3 i hi hne2
 ·by_cases e : c = j
  ·subst e
   rw [hS i c h2 hj, if_neg (by omega), hvj, Int.mul_one, Int.sub_self]; rfl
  ·rw [hold i c h2 (by omega), c1 i c (by omega)]
   split
   ·exact hP.low t (Nat.le_refl _) htR c (by omega)
   ·split
    ·exact hP.low k hk.1 hk.2 c (by omega)
    ·exact hP.low i (by omega) h2 c (by omega)
 ·-- its rows by the old ones
  have hrow : ∀ i, i < R → SpP p R C (cell m C) (cell (elM1 m C t k) C i) := fun i hi => by
   by_cases e : i = k
   ·exact SpP.row htR fun c hc => by rw [c1 i c hc, if_pos e, Int.sub_self]; exact Int.dvd_zero _
   ·by_cases e2 : i = t
    ·exact SpP.row hk.2 fun c hc => by rw [c1 i c hc, if_neg e, if_pos e2, Int.sub_self]; exact Int.dvd_zero _
    ·exact SpP.row hi fun c hc => by rw [c1 i c hc, if_neg e, if_neg e2, Int.sub_self]; exact Int.dvd_zero _
  refine RwP.of_rows fun i hi => ?_
  by_cases e : i = t
  ·refine SpP.comb (hrow t htR) (hrow t htR) x 0 fun c hc => ?_
   rw [hS i c hi hc, if_pos e, hv, Int.zero_mul, Int.add_zero, Int.mul_comm x]
   exact mod_dvd _ _
  ·refine SpP.comb (hrow i hi) (hrow t htR) 1 (-(cell (elM1 m C t k) C i j * x)) fun c hc => ?_
   rw [hS i c hi hc, if_neg e, Int.one_mul]
   refine dvd_tr (mod_dvd _ _) ?_
   have h3 : cell (elM1 m C t k) C i c - cell (elM1 m C t k) C i j * v c - (cell (elM1 m C t k) C i c + -(cell (elM1 m C t k) C i j * x) * cell (elM1 m C t k) C t c) = cell (elM1 m C t k) C i j * (cell (elM1 m C t k) C t c * x - v c) := by
    rw [Int.mul_sub, Int.neg_mul, Int.mul_assoc, Int.mul_comm x]; omega
   rw [h3, hv]
   exact Int.dvd_trans (dvd_sy (mod_dvd _ _)) (Int.dvd_mul_left _ _)
 ·-- the old ones by its rows
  have htS : SpP p R C (cell (elS p C R j t k m) C) v := SpP.row htR fun c hc => by rw [hS t c htR hc, if_pos rfl, Int.sub_self]; exact Int.dvd_zero _
  have hrow : ∀ i, i < R → SpP p R C (cell (elS p C R j t k m) C) (cell (elM1 m C t k) C i) := fun i hi => by
   by_cases e : i = t
   ·refine SpP.comb htS htS (cell m C k j) 0 fun c hc => ?_
    rw [e, Int.zero_mul, Int.add_zero, hv]
    have h4 : p ∣ cell m C k j * x - 1 := by rw [← hinv]; exact dvd_sy (mod_dvd _ _)
    have h5 : p ∣ cell m C k j * ((cell (elM1 m C t k) C t c * x) % p) - cell m C k j * (cell (elM1 m C t k) C t c * x) := by
     rw [← Int.mul_sub]; exact Int.dvd_trans (mod_dvd _ _) (Int.dvd_mul_left _ _)
    refine dvd_sy (dvd_tr h5 ?_)
    have h6 : cell m C k j * (cell (elM1 m C t k) C t c * x) - cell (elM1 m C t k) C t c = (cell m C k j * x - 1) * cell (elM1 m C t k) C t c := by
     rw [Int.sub_mul, Int.one_mul, Int.mul_comm (cell (elM1 m C t k) C t c) x, Int.mul_assoc]
    rw [h6]
    exact Int.dvd_trans h4 (Int.dvd_mul_right _ _)
   ·refine SpP.comb (SpP.row hi (v := cell (elS p C R j t k m) C i) fun c _ => by rw [Int.sub_self]; exact Int.dvd_zero _) htS 1 (cell (elM1 m C t k) C i j) fun c hc => ?_
    rw [hS i c hi hc, if_neg e, Int.one_mul]
    have := mod_dvd (cell (elM1 m C t k) C i c - cell (elM1 m C t k) C i j * v c) p
    have h7 : cell (elM1 m C t k) C i c - ((cell (elM1 m C t k) C i c - cell (elM1 m C t k) C i j * v c) % p + cell (elM1 m C t k) C i j * v c) = -((cell (elM1 m C t k) C i c - cell (elM1 m C t k) C i j * v c) % p - (cell (elM1 m C t k) C i c - cell (elM1 m C t k) C i j * v c)) := by omega
    rw [h7]; exact Int.dvd_neg.2 this
  refine RwP.of_rows fun i hi => ?_
  have hc2 : ∀ i c, c < C → cell m C i c = if i = k then cell (elM1 m C t k) C t c else if i = t then cell (elM1 m C t k) C k c else cell (elM1 m C t k) C i c := fun i c hc => by
   rw [c1 t c hc, c1 k c hc, c1 i c hc]
   by_cases e : i = k
   ·subst e
    rw [if_pos rfl]
    by_cases e2 : t = i
    ·rw [if_pos e2, e2]
    ·rw [if_neg e2, if_pos rfl]
   ·rw [if_neg e]
    by_cases e2 : i = t
    ·rw [if_pos e2, if_pos rfl, e2]
    ·rw [if_neg e2, if_neg e, if_neg e2]
  by_cases e : i = k
  ·exact (hrow t htR).imp fun a ha c hc => by rw [hc2 i c hc, if_pos e]; exact ha c hc
  ·by_cases e2 : i = t
   ·exact (hrow k hk.2).imp fun a ha c hc => by rw [hc2 i c hc, if_neg e, if_pos e2]; exact ha c hc
   ·exact (hrow i hi).imp fun a ha c hc => by rw [hc2 i c hc, if_neg e, if_neg e2]; exact ha c hc
theorem elN_spec {p : Int} (hpr : prB p = true) {C R : Nat} : ∀ {n j t : Nat} {m : List Int} {q : Nat → Nat}, j + n = C → ResL p m → PvP C R m j t q → ∃ z q', PvP C R z C (elN p C R n j t m) q' ∧ RwP p R (cell z C) R C (cell m C) ∧ RwP p R (cell m C) R C (cell z C)
 | 0, j, t, m, q, hj, hm, hP => by
  obtain rfl : j = C := by omega
  exact ⟨m, q, hP, RwP.of_eq fun i c _ _ => by rw [Int.sub_self]; exact Int.dvd_zero _, RwP.of_eq fun i c _ _ => by rw [Int.sub_self]; exact Int.dvd_zero _⟩
 | n + 1, j, t, m, q, hj, hm, hP => by
  by_cases ht : t < R
  ·rcases elK_spec (m := m) (C := C) (j := j) (n := R - t) (k := t) with ⟨h1, h2⟩ | ⟨h1, h2, h3⟩
   ·rw [elN_skip ht rfl (by omega)]
    refine elN_spec hpr (by omega) hm (q := q) ⟨hP.len, hP.le, fun l hl => ?_, fun i h3 h4 k hk => ?_⟩
    ·obtain ⟨a1, a2, a3⟩ := hP.piv l hl
     exact ⟨by omega, a2, a3⟩
    ·by_cases e : k = j
     ·subst e; exact h2 i h3 (by omega)
     ·exact hP.low i h3 h4 k (by omega)
   ·rw [elN_step ht rfl (by omega)]
    obtain ⟨s1, s2, s3, s4⟩ := elS_spec hpr hm (by omega) ht ⟨h1, by omega⟩ h3 hP
    obtain ⟨z, q', z1, z2, z3⟩ := elN_spec hpr (n := n) (j := j + 1) (by omega) s1 s2
    exact ⟨z, q', z1, z2.trans s3, s4.trans z3⟩
  ·rw [elN_full ht]
   refine ⟨m, q, ⟨hP.len, hP.le, fun l hl => ?_, fun i h3 h4 k hk => by omega⟩, RwP.of_eq fun i c _ _ => by rw [Int.sub_self]; exact Int.dvd_zero _, RwP.of_eq fun i c _ _ => by rw [Int.sub_self]; exact Int.dvd_zero _⟩
   obtain ⟨a1, a2, a3⟩ := hP.piv l hl
   exact ⟨by omega, a2, a3⟩
theorem chain_cut {p : Int} {L : List Int} (hd : ∀ i j, i ≤ j → dS L i ∣ dS L j) : ∃ k, k ≤ L.length ∧ (∀ i, i < k → ¬ p ∣ dS L i) ∧ ∀ i, k ≤ i → p ∣ dS L i := by
 have key : ∀ n, n ≤ L.length → ∃ k, k ≤ n ∧ (∀ i, i < k → ¬ p ∣ dS L i) ∧ (k < n → p ∣ dS L k) := by
  intro n
  induction n with
  | zero => intro _; exact ⟨0, Nat.le_refl _, fun i hi => by omega, fun h => by omega⟩
  | succ n ih =>
   intro hn
   obtain ⟨k, h1, h2, h3⟩ := ih (by omega)
   by_cases e : k < n
   ·exact ⟨k, by omega, h2, fun _ => h3 e⟩
   ·obtain rfl : k = n := by omega
    by_cases hdv : p ∣ dS L k
    ·exact ⟨k, by omega, h2, fun _ => hdv⟩
    ·exact ⟨k + 1, Nat.le_refl _, fun i hi => by
      by_cases e2 : i = k
      ·subst e2; exact hdv
      ·exact h2 i (by omega), fun h => by omega⟩
 obtain ⟨k, h1, h2, h3⟩ := key _ (Nat.le_refl _)
 refine ⟨k, h1, h2, fun i hi => ?_⟩
 by_cases e : k < L.length
 ·exact Int.dvd_trans (h3 e) (hd k i hi)
 ·rw [dS_ge (by omega)]; exact Int.dvd_zero _
theorem count_cut {p : Int} {L : List Int} {k : Nat} (hk : k ≤ L.length) (h1 : ∀ i, i < k → ¬ p ∣ dS L i) (h2 : ∀ i, k ≤ i → p ∣ dS L i) : (L.filter fun x => decide (p ∣ x)).length + k = L.length := by
 have e : L = L.take k ++ L.drop k := (List.take_append_drop k L).symm
 have g1 : (L.take k).filter (fun x => decide (p ∣ x)) = [] := List.filter_eq_nil_iff.2 fun x hx => by
  obtain ⟨i, hi, rfl⟩ := List.getElem_of_mem hx
  have hi2 : i < k := by simp at hi; omega
  have := h1 i hi2
  unfold dS at this
  rw [List.getD_eq_getElem?_getD, List.getElem?_eq_getElem (by omega), Option.getD_some] at this
  rw [List.getElem_take]
  simpa using this
 have g2 : (L.drop k).filter (fun x => decide (p ∣ x)) = L.drop k := List.filter_eq_self.2 fun x hx => by
  obtain ⟨i, hi, rfl⟩ := List.getElem_of_mem hx
  have hi2 : k + i < L.length := by simp at hi; omega
  have := h2 (k + i) (by omega)
  unfold dS at this
  rw [List.getD_eq_getElem?_getD, List.getElem?_eq_getElem hi2, Option.getD_some] at this
  rw [List.getElem_drop]
  simpa using this
 conv => lhs; rw [e]
 rw [List.filter_append, g1, g2, List.nil_append, List.length_drop]; omega
theorem rk_fac {m m' : Mat} {p : Int} {R C R' C' : Nat} {L : List Int} (ho : rkOk m p = true) (hr : m.rows = (R : Int)) (hc : m.cols = (C : Int)) (hl : m.cells.length = R * C) (hF : Fac m' R' C' L) (hf : Fct R C (cell m.cells C) R' C' (cell m'.cells C')) (hg : Fct R' C' (cell m'.cells C') R C (cell m.cells C)) :
  (L.filter fun x => decide (p ∣ x)).length + rkN m p = L.length := by
 have ho' := ho
 unfold rkOk at ho'
 rw [Bool.and_eq_true] at ho'
 have hpr := ho'.1
 have hp := prB_rng hpr
 have hrk : rkN m p = elN p C R C 0 0 (redL p m.cells) := by unfold rkN; rw [if_pos ho, hr, hc]; rfl
 obtain ⟨k, k1, k2, k3⟩ := chain_cut (p := p) hF.dv
 have hcount := count_cut k1 k2 k3
 obtain ⟨z, q, hP, z1, z2⟩ := elN_spec hpr (R := R) (n := C) (j := 0) (t := 0) (q := fun _ => 0) (Nat.zero_add _) (redL_res hp.1 m.cells) ⟨by rw [redL_len]; exact hl, Nat.zero_le _, fun l h => by omega, fun i _ _ c hc => by omega⟩
 have hred : ∀ i c, i < R → c < C → p ∣ cell (redL p m.cells) C i c - cell m.cells C i c := fun i c hi hc' => by
  have := place_lt hc' hi
  unfold cell redL
  rw [updR_getD (by omega), if_pos (by omega), Nat.sub_zero]
  exact mod_dvd _ _
 rw [hrk]
 generalize elN p C R C 0 0 (redL p m.cells) = T at *
 have zf := z1.trans (RwP.of_eq hred)
 have zg := (RwP.of_eq (M := cell (redL p m.cells) C) (M' := cell m.cells C) fun i c hi hc' => dvd_sy (hred i c hi hc')).trans z2
 have hle := hF.le
 have hTR := hP.le
 have hnd : ∀ y : Nat → Int, ∀ n, (∃ j, j < n ∧ y j ≠ 0) → (∀ d : Int, (∀ j, j < n → d ∣ y j) → d ∣ 1) → ¬ ∀ j, j < n → p ∣ y j := fun y n _ hpm h => by
  have := Int.le_of_dvd (by omega) (hpm p h); omega
 have hTk : T = k := by
  refine Nat.le_antisymm ?_ ?_
  ·by_cases hlt : T ≤ k
   ·exact hlt
   ·exfalso
    obtain ⟨A, hA⟩ := zf
    obtain ⟨X, Y, hXY⟩ := hf.trans hF.bw
    obtain ⟨y, hy, hne, -, hpm⟩ := siegelP (n := k) (k := T) (fun a r => mm R A X r a) (by omega)
    refine hnd y T hne hpm fun l' hl' => ?_
    have hq := (hP.piv l' hl').1
    have e1 : sm T (fun l => y l * cell z C l (q l')) = y l' := by
     rw [sm_one hl' fun l hl2 hne2 => by rw [(hP.piv l' hl').2.2 l (by omega) hne2, Int.mul_zero], (hP.piv l' hl').2.1, Int.mul_one]
    rw [← e1]
    have e2 : p ∣ mm T (fun _ => y) (cell z C) 0 (q l') - mm T (fun _ => y) (mm R A (cell m.cells C)) 0 (q l') := mm_dvd fun l hl2 => hA l (q l') (by omega) hq
    have e3 : mm T (fun _ => y) (mm R A (cell m.cells C)) 0 (q l') = mm C' (mm R' (mm T (fun _ => y) (mm R A X)) (Dg (dS L))) Y 0 (q l') := by
     rw [mm_congr2 (B' := mm C' (mm R' (mm R A X) (Dg (dS L))) Y) fun l hl2 => ?_]
     ·rw [← mm_assoc]
      exact mm_congr1 fun b _ => (mm_assoc _ _ _ _ _ _ _).symm
     ·rw [mm_congr2 (B' := mm C' (mm R' X (Dg (dS L))) Y) fun i hi => hXY i (q l') hi hq, ← mm_assoc]
      exact mm_congr1 fun b _ => (mm_assoc _ _ _ _ _ _ _).symm
    have e4 : p ∣ mm T (fun _ => y) (mm R A (cell m.cells C)) 0 (q l') := by
     rw [e3]
     refine sm_dvd fun b _ => Int.dvd_trans (sm_dvd fun a _ => ?_) (Int.dvd_mul_right _ _)
     by_cases e : a = b
     ·subst e
      by_cases ha : a < k
      ·have : mm T (fun _ => y) (mm R A X) 0 a = 0 := by
        rw [← hy a ha]; exact sm_congr fun r _ => Int.mul_comm _ _
       rw [this, Int.zero_mul]; exact Int.dvd_zero _
      ·rw [Dg_self]; exact Int.dvd_trans (k3 a (by omega)) (Int.dvd_mul_left _ _)
     ·rw [Dg_ne e, Int.mul_zero]; exact Int.dvd_zero _
    have e5 := Int.dvd_add e2 e4
    have e6 : mm T (fun _ => y) (cell z C) 0 (q l') - mm T (fun _ => y) (mm R A (cell m.cells C)) 0 (q l') + mm T (fun _ => y) (mm R A (cell m.cells C)) 0 (q l') = mm T (fun _ => y) (cell z C) 0 (q l') := by omega
    rw [e6] at e5
    exact e5
  ·by_cases hlt : k ≤ T
   ·exact hlt
   ·exfalso
    obtain ⟨B, hB⟩ := zg
    obtain ⟨X, Y, hXY⟩ := hF.fw.trans hg
    obtain ⟨y, hy, hne, -, hpm⟩ := siegelP (n := T) (k := k) (fun a r => mm R X B r a) (by omega)
    refine hnd y k hne hpm fun i hi => ?_
    have e1 : sm k (fun r => y r * Dg (dS L) r i) = y i * dS L i := by
     rw [sm_one hi fun r _ hne2 => by rw [Dg_ne hne2, Int.mul_zero], Dg_self]
    have e2 : sm k (fun r => y r * Dg (dS L) r i) = mm C (mm k (fun _ => y) (mm R X (cell m.cells C))) Y 0 i := by
     rw [sm_congr (g := fun r => y r * mm C (mm R X (cell m.cells C)) Y r i) fun r hr2 => by rw [hXY r i (by omega) (by omega)]]
     show mm k (fun _ => y) (mm C (mm R X (cell m.cells C)) Y) 0 i = _
     rw [← mm_assoc]
    have e3 : p ∣ mm C (mm k (fun _ => y) (mm R X (cell m.cells C))) Y 0 i := by
     refine sm_dvd fun c hc' => Int.dvd_trans ?_ (Int.dvd_mul_right _ _)
     have e4 : p ∣ mm k (fun _ => y) (mm R X (cell m.cells C)) 0 c - mm k (fun _ => y) (mm R X (mm R B (cell z C))) 0 c := mm_dvd fun r hr2 => mm_dvd fun i2 hi2 => hB i2 c hi2 hc'
     have e5 : mm k (fun _ => y) (mm R X (mm R B (cell z C))) 0 c = 0 := by
      rw [mm_congr2 (B' := mm R (mm R X B) (cell z C)) fun r _ => (mm_assoc _ _ _ _ _ _ _).symm, ← mm_assoc]
      refine sm_zero fun a ha => ?_
      by_cases e : a < T
      ·have : mm k (fun _ => y) (mm R X B) 0 a = 0 := by
        rw [← hy a e]; exact sm_congr fun r _ => Int.mul_comm _ _
       rw [this, Int.zero_mul]
      ·rw [hP.low a (by omega) ha c hc', Int.mul_zero]
     rw [e5, Int.sub_zero] at e4
     exact e4
    rw [← e2, e1] at e3
    rcases pr_mul hpr e3 with h | h
    ·exact h
    ·exact (k2 i hi h).elim
 omega
--END
end Go.Proofs.YtjepiemflpjjhaaGreat

namespace Go.Proofs.YtjepiemflpjjhaaGreat
open Go.RowKit
--BODY
theorem Fct.turn {R' C' R C : Nat} {M' M : Mx} (h : Fct R' C' M' R C M) : Fct C' R' (fun i j => M' j i) C R fun i j => M j i := by
 obtain ⟨A, B, h⟩ := h
 refine ⟨fun i k => B k i, fun k c => A c k, fun i j hi hj => ?_⟩
 show M' j i = _
 rw [h j i hj hi, mm_tr, mm_assoc]
 refine mm_congr2 fun a _ => ?_
 exact sm_congr fun b _ => Int.mul_comm _ _
theorem dg_turn (R C : Nat) (d : Nat → Int) : Fct C R (Dg d) C R fun i j => Dg d j i := Fct.of_eq fun i j _ _ => by
 by_cases e : i = j
 ·subst e; rfl
 ·rw [Dg_ne e, Dg_ne (fun h => e h.symm)]
theorem dg_turn' (R C : Nat) (d : Nat → Int) : Fct C R (fun i j => Dg d j i) C R (Dg d) := Fct.of_eq fun i j _ _ => by
 by_cases e : i = j
 ·subst e; rfl
 ·rw [Dg_ne e, Dg_ne (fun h => e h.symm)]
theorem ind_dg {N C R' C' : Nat} {b : Mx} {L : List Int} (hb : Ind N C b) (hL : Chn L) (hle : L.length ≤ min R' C') (hf : Fct N C b R' C' (Dg (dS L))) (hg : Fct R' C' (Dg (dS L)) N C b) : N = L.length := by
 refine Nat.le_antisymm ?_ ?_
 ·obtain ⟨A, B, hAB⟩ := hf
  have : Rwf N b L.length C (fun k j => dS L k * B k j) := ⟨A, fun i j hi hj => by
   rw [hAB i j hi hj]
   show sm C' (fun k => mm R' A (Dg (dS L)) i k * B k j) = _
   rw [sm_ext (show L.length ≤ C' by omega) fun k h1 h2 => by rw [dg_row (show L.length ≤ R' by omega) fun a ha => dS_ge ha, if_neg (by omega), Int.zero_mul]]
   exact sm_congr fun k hk => by rw [dg_row (show L.length ≤ R' by omega) fun a ha => dS_ge ha, if_pos hk, Int.mul_assoc]⟩
  exact ind_le hb this
 ·obtain ⟨A, B, hAB⟩ := hg
  refine sg_le (Z := fun k i => A i k) fun y hy => fun j hj => ?_
  have e1 : sm L.length (fun i => y i * Dg (dS L) i j) = 0 := by
   rw [sm_congr (g := fun i => y i * mm C (mm N A b) B i j) fun i hi' => by rw [hAB i j (by omega) (by omega)]]
   show mm L.length (fun _ => y) (mm C (mm N A b) B) 0 j = 0
   rw [← mm_assoc]
   refine sm_zero fun c _ => ?_
   have : mm L.length (fun _ => y) (mm N A b) 0 c = 0 := by
    rw [← mm_assoc]
    refine sm_zero fun k hk => ?_
    have : mm L.length (fun _ => y) A 0 k = 0 := by
     rw [← hy k hk]; exact sm_congr fun i _ => Int.mul_comm _ _
    rw [this, Int.zero_mul]
   rw [this, Int.zero_mul]
  rw [sm_one hj fun i _ hne => by rw [Dg_ne hne, Int.mul_zero], Dg_self] at e1
  rcases Int.mul_eq_zero.1 e1 with h2 | h2
  ·exact h2
  ·have := hL.pos j hj; omega
theorem trRow_cell {m : List Int} {C R i : Nat} (hi : i < R) : ∀ {j : Nat} {x : List Int}, j ≤ C → x.length = C * R → ∀ j' i', i' < R → cell (trRow m C R i j x) R j' i' = if i' = i ∧ j' < j then cell m C i j' else cell x R j' i'
 | 0, x, _, _, j', i', _ => by rw [if_neg (by omega)]; rfl
 | j + 1, x, hj, hl, j', i', hi' => by
  have hp := place_lt (C := R) (R := C) hi (show j < C by omega)
  have ih := trRow_cell (m := m) hi (j := j) (by omega) hl j' i' hi'
  unfold cell at ih ⊢
  simp only [trRow]
  rw [getD_setL (by rw [trRow_len]; omega)]
  by_cases e : j' * R + i' = j * R + i
  ·obtain ⟨rfl, rfl⟩ := place_eq hi' hi e
   rw [if_pos rfl, if_pos ⟨rfl, by omega⟩]; rfl
  ·rw [if_neg e, ih]
   have : (i' = i ∧ j' < j + 1) ↔ (i' = i ∧ j' < j) := by
    constructor
    ·rintro ⟨h1, h2⟩
     refine ⟨h1, ?_⟩
     have : j' ≠ j := fun e2 => e (by rw [h1, e2])
     omega
    ·rintro ⟨h1, h2⟩; exact ⟨h1, by omega⟩
   simp only [this]
theorem trAll_cell {m : List Int} {C R : Nat} : ∀ {n : Nat}, n ≤ R → ∀ j i, i < n → j < C → cell (trAll m C R n) R j i = cell m C i j
 | 0, _, _, i, h, _ => by omega
 | n + 1, hn, j, i, h, hj => by
  simp only [trAll]
  rw [trRow_cell (by omega) (Nat.le_refl _) (trAll_len _ _ _ _) j i (by omega)]
  by_cases e : i = n
  ·rw [if_pos ⟨e, hj⟩, e]
  ·rw [if_neg (by omega)]; exact trAll_cell (by omega) j i (by omega) hj
theorem turn_parts {m : Mat} {R C : Nat} (hr : m.rows = (R : Int)) (hc : m.cols = (C : Int)) : (turnM m).rows = (C : Int) ∧ (turnM m).cols = (R : Int) ∧ (turnM m).cells.length = C * R ∧ ∀ i j, i < C → j < R → cell (turnM m).cells R i j = cell m.cells C j i := by
 obtain ⟨mr, mc, cells⟩ := m
 simp only at hr hc
 subst hr
 subst hc
 rw [turnM_eq]
 exact ⟨rfl, rfl, trAll_len _ _ _ _, fun i j hi hj => trAll_cell (Nat.le_refl _) i j hj hi⟩
theorem turn_fct {m : Mat} {R C R' C' : Nat} {M : Mx} (hr : m.rows = (R : Int)) (hc : m.cols = (C : Int)) (h : Fct R C (cell m.cells C) R' C' M) : Fct C R (cell (turnM m).cells R) C' R' fun i j => M j i :=
 (Fct.of_eq (turn_parts hr hc).2.2.2).trans h.turn
theorem turn_fct' {m : Mat} {R C R' C' : Nat} {M : Mx} (hr : m.rows = (R : Int)) (hc : m.cols = (C : Int)) (h : Fct R' C' M R C (cell m.cells C)) : Fct C' R' (fun i j => M j i) C R (cell (turnM m).cells R) :=
 h.turn.trans (Fct.of_eq fun i j hi hj => ((turn_parts hr hc).2.2.2 i j hi hj).symm)
def zc (p : Int) (L : List Int) : Nat := (L.filter fun x => decide (p ∣ x)).length
theorem zc_gt1 {p : Int} (hp : 2 ≤ p) {L : List Int} (h : ∀ i, i < L.length → 0 < dS L i) : zc p (gt1 L) = zc p L := by
 unfold zc gt1
 rw [List.filter_filter]
 congr 1
 refine List.filter_congr fun x hx => ?_
 obtain ⟨i, hi, rfl⟩ := List.getElem_of_mem hx
 have h1 := h i hi
 unfold dS at h1
 rw [List.getD_eq_getElem?_getD, List.getElem?_eq_getElem hi, Option.getD_some] at h1
 rw [Bool.eq_iff_iff]
 simp only [Bool.and_eq_true, decide_eq_true_eq]
 constructor
 ·exact fun h => h.1
 ·intro hd
  exact ⟨hd, by have := Int.le_of_dvd h1 hd; omega⟩
theorem bet_parts {l : List (List Int)} {k p : Int} (h : betOk l k p = true) : 0 ≤ k ∧ k ≤ 3 ∧ rkOk (boundB l k) p = true ∧ rkOk (boundB l (k + 1)) p = true ∧ betN l k p = (boundB l k).rows - (rkN (boundB l k) p : Nat) - (rkN (boundB l (k + 1)) p : Nat) ∧ prB p = true := by
 have hy := (bet_yes h).2
 unfold betOk at h
 simp only [Bool.and_eq_true] at h
 have hin := inB_iff.1 h.1
 have hw : wrap64 (k + 1) = k + 1 := by unfold wrap64; omega
 rw [hw] at h hy
 refine ⟨by omega, by omega, h.2.2.2.1, h.2.2.2.2, hy, ?_⟩
 have := h.2.2.2.1
 unfold rkOk at this
 rw [Bool.and_eq_true] at this
 exact this.1
theorem bound_zero {l : List (List Int)} (h : boundOk l 0 = true) : (boundB l 0).cols = 0 := by
 have hC : isCplxB l = true := by unfold boundOk at h; rw [Bool.and_eq_true] at h; exact h.1
 have e : (boundB l 0).cols = ((facesB l (0 - 1)).length : Int) := by unfold boundB; rw [if_pos h]; rfl
 rw [e]
 have : facesB l (0 - 1) = [] := List.filter_eq_nil_iff.2 fun s hs e => by
  have := (isCplxB_iff.1 hC).1.1 s hs
  unfold isSimpB at this
  rw [decide_eq_true_eq] at this
  have := this.2
  simp only [beq_iff_eq] at e
  omega
 rw [this]; rfl
theorem low_fac {l : List (List Int)} {k : Int} (hk : 0 < k) (h : homY l (k - 1) = true) : ∃ (R C Rx Cx : Nat) (m : Mat) (L : List Int), (boundB l k).rows = (R : Int) ∧ (boundB l k).cols = (C : Int) ∧ (boundB l k).cells.length = R * C ∧ Fac m Rx Cx L ∧ Fct Rx Cx (cell m.cells Cx) R C (cell (boundB l k).cells C) ∧ Fct R C (cell (boundB l k).cells C) Rx Cx (cell m.cells Cx) ∧ homL l (k - 1) = gt1 L := by
 obtain ⟨-, -, -, -, a3, a4, a5, -, m3⟩ := hom_parts h
 rw [show k - 1 + 1 = k by omega] at a4 a5 m3
 obtain ⟨C0, t, NK, R1, C1, Rx, Cx, bb, -, -, -, -, -, q2, r1, r2, r3, hF, f1, f2⟩ := qu_parts a3 a4 a5
 exact ⟨R1, C1, Rx, Cx, _, _, r1, r2, r3, hF, f1, f2, m3.trans q2⟩
theorem rk_zero {m : Mat} {p : Int} (h : m.cols = 0) : rkN m p = 0 := by
 unfold rkN
 split
 ·rw [h]; rfl
 ·rfl
theorem bas_cols {m : Mat} {t : Nat} {b : List Int} (h : Bas m 0 t b) : t = 0 := by
 rcases Nat.eq_zero_or_pos t with e | e
 ·exact e
 ·obtain ⟨k, hk, -⟩ := h.full 0 e; omega
theorem uni_count {l : List (List Int)} {k p : Int} (h1 : betOk l k p = true) (h2 : homY l k = true) (h3 : 0 < k → homY l (k - 1) = true) :
  betN l k p = homN l k + zc p (homL l k) + (if 0 < k then (zc p (homL l (k - 1)) : Int) else 0) := by
 obtain ⟨k0, k3, b1, b2, b3, b4⟩ := bet_parts h1
 have hp := prB_rng b4
 obtain ⟨-, -, c1, c2, a3, a4, a5, m2, m3⟩ := hom_parts h2
 obtain ⟨C0, t, NK, R1, C1, Rx, Cx, bb, hbb, hbo, hNt, hC1, q1, q2, r1, r2, r3, hF, f1, f2⟩ := qu_parts a3 a4 a5
 have e1 := rk_fac b2 r1 r2 r3 hF f2 f1
 have e2 : zc p (homL l k) = zc p (quF (boundB l k) (boundB l (k + 1))) := by
  show zc p (mqB (homIs l k) (cycB l k) (bndB l k)) = _
  rw [m3, q2, zc_gt1 hp.1 hF.pos]
 have e3 : homN l k = (NK : Int) - (quF (boundB l k) (boundB l (k + 1))).length := m2.trans q1
 rw [e2, e3, b3, hNt]
 unfold zc at *
 by_cases hk : 0 < k
 ·rw [if_pos hk]
  obtain ⟨R, C, Rx', Cx', m', L, s1, s2, s3, hF', g1, g2, s4⟩ := low_fac hk (h3 hk)
  have e4 := rk_fac b1 s1 s2 s3 hF' g2 g1
  have e5 := zc_gt1 hp.1 hF'.pos (p := p)
  unfold zc at e5
  rw [s4, e5]
  obtain rfl : C0 = C := by have := hbb.cols; omega
  obtain ⟨R2, hr2, -, hf, hg⟩ := bas_rows hbb hbo
  obtain rfl : R2 = R := by omega
  have e6 := ind_fac (bas_ind hbb hbo) hF' (hf.fct.trans g2) (g1.trans hg.fct)
  push_cast
  omega
 ·rw [if_neg hk]
  have hk0 : k = 0 := by omega
  have hz : (boundB l k).cols = 0 := by rw [hk0] at c1 ⊢; exact bound_zero c1
  rw [rk_zero hz]
  obtain rfl : C0 = 0 := by have := hbb.cols; omega
  have := bas_cols hbb
  push_cast
  omega
theorem uni_coh {l : List (List Int)} {k : Int} (h2 : homY l k = true) (h3 : 0 < k → homY l (k - 1) = true) (h4 : mqOk (cohIs l k) (cohX l k) (cohY l k) = true) :
  mqN (cohIs l k) (cohX l k) (cohY l k) = homN l k ∧ mqB (cohIs l k) (cohX l k) (cohY l k) = if 0 < k then homL l (k - 1) else [] := by
 obtain ⟨k0, k3, c1, c2, a3, a4, a5, m2, m3⟩ := hom_parts h2
 obtain ⟨C0, t, NK, R1, C1, Rx, Cx, bb, hbb, hbo, hNt, hC1, q1, q2, r1, r2, r3, hF, f1, f2⟩ := qu_parts a3 a4 a5
 have e3 : homN l k = (NK : Int) - (quF (boundB l k) (boundB l (k + 1))).length := m2.trans q1
 have hw : wrap64 (k + 1) = k + 1 := by unfold wrap64; omega
 have eU : cohU l k = turnM (boundB l (k + 1)) := by unfold cohU; rw [hw]
 unfold mqOk at h4
 rw [Bool.and_eq_true] at h4
 obtain ⟨h5, h6⟩ := h4
 obtain ⟨-, n2, n3⟩ := mq_yes (a := cohX l k) (b := cohY l k) h5
 have h7 := h5
 unfold cohIs at h7
 simp only [Bool.and_eq_true] at h7
 obtain ⟨-, -, -, u1, u2⟩ := h7
 rw [n2, n3]
 unfold cohX cohY at h6 ⊢
 obtain ⟨C0', t', NK', R1', C1', Rx', Cx', bb', hbb', hbo', hNt', hC1', q1', q2', r1', r2', r3', hF', f1', f2'⟩ := qu_parts u1 u2 h6
 rw [q1', q2', e3]
 rw [eU] at *
 obtain ⟨v1, v2, v3, v4⟩ := turn_parts r1 r2
 obtain ⟨R, hR⟩ : ∃ R : Nat, (boundB l k).rows = (R : Int) := ⟨NK + t, hNt⟩
 obtain rfl : R = NK + t := by omega
 have hC0 := hbb.cols
 obtain ⟨x1, x2, x3, x4⟩ := turn_parts hR hC0
 have hT : cohT l k = turnM (boundB l k) := rfl
 rw [hT] at r1' r2' r3' f1' f2'
 obtain rfl : R1' = C0 := by omega
 obtain rfl : C1' = NK + t := by omega
 obtain rfl : C0' = R1 := by have := hbb'.cols; omega
 obtain ⟨R2, hr2, -, hf, hg⟩ := bas_rows hbb' hbo'
 obtain rfl : R2 = C1 := by omega
 have hle := hF.le
 have hle' := hF'.le
 have ht' : t' = (quF (boundB l k) (boundB l (k + 1))).length := by
  refine ind_dg (R' := Cx) (C' := Rx) (bas_ind hbb' hbo') hF.chn (by omega) ?_ ?_
  ·exact (hf.fct.trans (turn_fct r1 r2 (f2.trans hF.bw))).trans (dg_turn' Rx Cx _)
  ·exact ((dg_turn Rx Cx _).trans (turn_fct' r1 r2 (hF.fw.trans f1))).trans hg.fct
 obtain ⟨R3, hr3, -, hf3, hg3⟩ := bas_rows hbb hbo
 obtain rfl : R3 = NK + t := by omega
 by_cases hk : 0 < k
 ·rw [if_pos hk]
  obtain ⟨R, C, Ry, Cy, m', L, s1, s2, s3, hF2, g1, g2, s4⟩ := low_fac hk (h3 hk)
  obtain rfl : R = NK + t := by omega
  obtain rfl : C = R1' := by omega
  have hle2 := hF2.le
  have hL : L = quF (turnM (boundB l (k + 1))) (cohT l k) := by
   refine chn_same (R := Ry) (C := Cy) (R' := Cx') (C' := Rx') hF2.chn hF'.chn hle2 (by omega) ?_ ?_
   ·-- turned factors by the others
    have z1 : Fct Cx' Rx' (Dg (dS (quF (turnM (boundB l (k + 1))) (cohT l k)))) (NK + t) C (cell (boundB l k).cells C) := by
     have y1 := (hF'.fw.trans f1').turn
     refine ((dg_turn Rx' Cx' _).trans y1).trans (Fct.of_eq fun i j hi hj => ?_)
     exact x4 j i hj hi
    exact (z1.trans g2).trans hF2.bw
   ·have z1 : Fct (NK + t) C (cell (boundB l k).cells C) Cx' Rx' (Dg (dS (quF (turnM (boundB l (k + 1))) (cohT l k)))) := by
     have y1 := (f2'.trans hF'.bw).turn
     refine ((Fct.of_eq fun i j hi hj => ?_).trans y1).trans (dg_turn' Rx' Cx' _)
     exact (x4 j i hj hi).symm
    exact (hF2.fw.trans g1).trans z1
  have ht := ind_fac (bas_ind hbb hbo) hF2 (hf3.fct.trans g2) (g1.trans hg3.fct)
  rw [← hL, s4]
  refine ⟨?_, rfl⟩
  omega
 ·rw [if_neg hk]
  have hk0 : k = 0 := by omega
  have hz : (boundB l k).cols = 0 := by rw [hk0] at c1 ⊢; exact bound_zero c1
  obtain rfl : R1' = 0 := by omega
  have ht0 := bas_cols hbb
  have hL0 : quF (turnM (boundB l (k + 1))) (cohT l k) = [] := by
   rcases Nat.eq_zero_or_pos (quF (turnM (boundB l (k + 1))) (cohT l k)).length with e | e
   ·exact List.length_eq_zero_iff.1 e
   ·exfalso
    have hp := hF'.pos 0 e
    obtain ⟨A, B, hAB⟩ := hF'.fw.trans f1'
    have := hAB 0 0 (by omega) (by omega)
    rw [Dg_self] at this
    rw [this] at hp
    have hz2 : mm (NK + t) (mm 0 A (cell (turnM (boundB l k)).cells (NK + t))) B 0 0 = 0 := sm_zero fun c _ => by
     show (0 : Int) * _ = 0
     exact Int.zero_mul _
    omega
  rw [hL0]
  refine ⟨?_, rfl⟩
  simp only [List.length_nil]
  omega
--END
end Go.Proofs.YtjepiemflpjjhaaGreat
