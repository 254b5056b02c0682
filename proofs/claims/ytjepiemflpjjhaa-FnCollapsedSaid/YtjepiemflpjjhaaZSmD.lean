/-
  The Smith form is diagonal, each number divides the next one, and it is a product with the matrix both ways: plain.
-/
import Derived.Test.YtjepiemflpjjhaaZSmith
import Derived.Test.YtjepiemflpjjhaaZSmithT
import Derived.Test.YtjepiemflpjjhaaZSum
import Derived.Test.YtjepiemflpjjhaaZLatB
import Derived.Test.YtjepiemflpjjhaaZOrdP
import Derived.Test.YtjepiemflpjjhaaZMods
import Derived.Test.YtjepiemflpjjhaaZBd
import Derived.Test.YtjepiemflpjjhaaZCollapse
import Derived.Test.YtjepiemflpjjhaaZEuler
import Derived.Test.YtjepiemflpjjhaaZMorsC
set_option maxHeartbeats 8000000
set_option maxRecDepth 100000
namespace Go.Proofs.Ytjepiemflpjjhaa
--BODY
structure Cl (C R t : Nat) (P : SS → Prop) : Prop where
 add : ∀ s s' i p q, t ≤ i → i < R → t ≤ p → p < R → i ≠ p → Ss C R s → rAdd3 C R i p q s = some s' → P s → P s'
 sw : ∀ s i p, t ≤ i → i < R → t ≤ p → p < R → i ≠ p → Ss C R s → P s → P (rSw3 C R i p s)
 neg : ∀ s i, t ≤ i → i < R → Ss C R s → P s → P (rNeg3 C R i s)
 cadd : ∀ s s' i p q, t ≤ i → i < C → t ≤ p → p < C → i ≠ p → Ss C R s → cAdd3 C R i p q s = some s' → P s → P s'
 csw : ∀ s i p, t ≤ i → i < C → t ≤ p → p < C → i ≠ p → Ss C R s → P s → P (cSw3 C R i p s)
theorem Cl.rows {C R t : Nat} {P : SS → Prop} (H : Cl C R t P) (ht : t < R) : ∀ {n i : Nat} {s s' : SS}, t < i → i + n ≤ R → Ss C R s → P s → rowsP C R t n i s = some s' → Ss C R s' ∧ P s'
 | 0, _, s, s', _, _, hs, hP, he => by obtain rfl := Option.some.inj he; exact ⟨hs, hP⟩
 | n + 1, i, s, s', hi, hn, hs, hP, he => by
  simp only [rowsP] at he
  split at he
  ·cases ha : rAdd3 C R i t (-(cell s.1 C i t / cell s.1 C t t)) s with
   | none => rw [ha] at he; cases he
   | some s1 =>
    rw [ha] at he
    exact H.rows ht (by omega) (by omega) (rAdd3_ss hs ha).1 (H.add _ _ _ _ _ (by omega) (by omega) (Nat.le_refl _) ht (by omega) hs ha hP) he
  ·exact H.rows ht (by omega) (by omega) hs hP he
theorem Cl.cols {C R t : Nat} {P : SS → Prop} (H : Cl C R t P) (ht : t < C) : ∀ {n i : Nat} {s s' : SS}, t < i → i + n ≤ C → Ss C R s → P s → colsP C R t n i s = some s' → Ss C R s' ∧ P s'
 | 0, _, s, s', _, _, hs, hP, he => by obtain rfl := Option.some.inj he; exact ⟨hs, hP⟩
 | n + 1, i, s, s', hi, hn, hs, hP, he => by
  simp only [colsP] at he
  split at he
  ·cases ha : cAdd3 C R i t (-(cell s.1 C t i / cell s.1 C t t)) s with
   | none => rw [ha] at he; cases he
   | some s1 =>
    rw [ha] at he
    exact H.cols ht (by omega) (by omega) (cAdd3_ss hs ha).1 (H.cadd _ _ _ _ _ (by omega) (by omega) (Nat.le_refl _) ht (by omega) hs ha hP) he
  ·exact H.cols ht (by omega) (by omega) hs hP he
theorem Cl.piv {C R t r c : Nat} {P : SS → Prop} (H : Cl C R t P) (ht : t < R) (htC : t < C) (hr : t ≤ r ∧ r < R) (hc : t ≤ c ∧ c < C) {s : SS} (hs : Ss C R s) (hP : P s) : P (toPiv C R t r c s) := by
 have h1 : P (if r = t then s else rSw3 C R r t s) ∧ Ss C R (if r = t then s else rSw3 C R r t s) := by
  split
  ·exact ⟨hP, hs⟩
  ·rename_i e; exact ⟨H.sw _ _ _ hr.1 hr.2 (Nat.le_refl _) ht e hs hP, rSw3_ss hs⟩
 unfold toPiv
 by_cases e : c = t
 ·rw [if_pos e]; exact h1.1
 ·rw [if_neg e]; exact H.csw _ _ _ hc.1 hc.2 (Nat.le_refl _) htC e h1.2 h1.1
theorem ls_lt {m : List Int} {C R t : Nat} (ht : t < R) (htC : t < C) (hp : 0 ≤ (leastS m C R t).1) : (t ≤ lsR m C R t ∧ lsR m C R t < R) ∧ (t ≤ lsC m C R t ∧ lsC m C R t < C) ∧ cell m C (lsR m C R t) (lsC m C R t) ≠ 0 := by
 rcases leastS_ok m (C := C) (R := R) (t := t) (by omega) (by omega) with ⟨h0, _⟩ | ⟨r, c, h0, h1, h2, h3, h4, h5, _⟩
 ·rw [h0] at hp; simp at hp
 ·unfold lsR lsC
  rw [h0]
  simp only [Int.toNat_natCast]
  exact ⟨⟨h1, h2⟩, ⟨h3, h4⟩, h5⟩
theorem Cl.rnd {C R t : Nat} {P : SS → Prop} (H : Cl C R t P) (ht : t < R) (htC : t < C) {s s' : SS} {b : Bool} (hs : Ss C R s) (hP : P s) (hp : 0 ≤ (leastS s.1 C R t).1) (he : rnd C R t s = some (s', b)) :
  P s' ∧ (b = true → (∀ i, t < i → i < R → cell s'.1 C i t = 0) ∧ (∀ j, t < j → j < C → cell s'.1 C t j = 0) ∧ (∀ i j, t < i → i < R → t < j → j < C → cell s'.1 C t t ∣ cell s'.1 C i j) ∧ cell s'.1 C t t ≠ 0) := by
 obtain ⟨hr, hc, hne⟩ := ls_lt ht htC hp
 unfold Go.Proofs.Ytjepiemflpjjhaa.rnd at he
 have h0 := toPiv_ss (t := t) (r := lsR s.1 C R t) (c := lsC s.1 C R t) hs
 have hP0 := H.piv ht htC hr hc hs hP
 have hpc := toPiv_cell (t := t) hs hr.2 hc.2 ht htC
 generalize toPiv C R t (lsR s.1 C R t) (lsC s.1 C R t) s = s0 at *
 unfold rnd1 at he
 cases hA : rowsP C R t (R - (t + 1)) (t + 1) s0 with
 | none => rw [hA] at he; cases he
 | some s1 =>
  rw [hA] at he
  simp only [Option.bind_some] at he
  obtain ⟨a1, a2, -, -⟩ := rowsP_spec ht htC h0 (by omega) (by omega) (by rw [hpc]; exact hne) hA
  have hP1 := (H.rows ht (by omega) (by omega) h0 hP0 hA).2
  have hp1 : cell s1.1 C t t ≠ 0 := by rw [a2 t htC, hpc]; exact hne
  cases hB : colsP C R t (C - (t + 1)) (t + 1) s1 with
  | none => rw [hB] at he; cases he
  | some s2 =>
   rw [hB] at he
   simp only [Option.bind_some] at he
   obtain ⟨b1, b2, -, -⟩ := colsP_spec ht htC a1 (by omega) (by omega) hp1 hB
   have hP2 := (H.cols htC (by omega) (by omega) a1 hP1 hB).2
   have hp2 : cell s2.1 C t t ≠ 0 := by rw [b2 t ht]; exact hp1
   cases hcl : (colClean s2.1 C R t && rowClean s2.1 C t) with
   | false =>
    rw [hcl] at he
    simp only [Bool.false_eq_true, if_false, Option.some.injEq, Prod.mk.injEq] at he
    obtain ⟨rfl, rfl⟩ := he
    exact ⟨hP2, fun h => by cases h⟩
   | true =>
    rw [hcl] at he
    simp only [if_true] at he
    rw [Bool.and_eq_true] at hcl
    cases hdv : divRow s2.1 C R t with
    | none =>
     rw [hdv] at he
     simp only [Option.some.injEq, Prod.mk.injEq] at he
     obtain ⟨rfl, rfl⟩ := he
     refine ⟨hP2, fun _ => ⟨colClean_iff.1 hcl.1, rowClean_iff.1 hcl.2, fun i j hi hiR hj hjC => ?_, hp2⟩⟩
     unfold divRow at hdv
     have := List.find?_eq_none.1 hdv (i - (t + 1)) (List.mem_range.2 (by omega))
     rw [show t + 1 + (i - (t + 1)) = i by omega] at this
     have h3 : ¬ ∃ j, t < j ∧ j < C ∧ (cell s2.1 C i j).tmod (cell s2.1 C t t) ≠ 0 := fun h => this (rowBad_iff.2 h)
     exact Int.dvd_of_tmod_eq_zero (Classical.byContradiction fun h4 => h3 ⟨j, hj, hjC, h4⟩)
    | some d =>
     rw [hdv] at he
     simp only [Option.map_eq_some_iff, Prod.mk.injEq] at he
     obtain ⟨s3, hs3, rfl, rfl⟩ := he
     unfold divRow at hdv
     have hdr := List.mem_range.1 (List.mem_of_find?_eq_some hdv)
     exact ⟨H.add _ _ _ _ _ (Nat.le_refl _) ht (by omega) (by omega) (by omega) b1 hs3 hP2, fun h => by cases h⟩
theorem Cl.loop {C R t : Nat} {P : SS → Prop} (H : Cl C R t P) (ht : t < R) (htC : t < C) : ∀ {n : Nat} {s s' : SS}, Ss C R s → P s → 0 ≤ (leastS s.1 C R t).1 → sLoop C R t n s = some s' →
  P s' ∧ (∀ i, t < i → i < R → cell s'.1 C i t = 0) ∧ (∀ j, t < j → j < C → cell s'.1 C t j = 0) ∧ (∀ i j, t < i → i < R → t < j → j < C → cell s'.1 C t t ∣ cell s'.1 C i j) ∧ cell s'.1 C t t ≠ 0
 | 0, _, _, _, _, _, h => by cases h
 | n + 1, s, s', hs, hP, hp, h => by
  simp only [sLoop] at h
  cases hr : Go.Proofs.Ytjepiemflpjjhaa.rnd C R t s with
  | none => rw [hr] at h; cases h
  | some x =>
   obtain ⟨s1, b⟩ := x
   obtain ⟨g1, g2⟩ := rnd_spec ht htC hs hp hr
   obtain ⟨q1, q2⟩ := H.rnd ht htC hs hP hp hr
   rw [hr] at h
   cases b with
   | true =>
    obtain rfl := Option.some.inj h
    exact ⟨q1, q2 rfl⟩
   | false => exact H.loop ht htC g1 q1 (g2 rfl).1 h
theorem mm_tr {n : Nat} {A E : Mx} {r c : Nat} : mm n A (fun k c => E c k) r c = mm n E (fun k r => A r k) c r := sm_congr fun _ _ => Int.mul_comm _ _
theorem Fct.row {R C : Nat} {M M' E : Mx} (h : ∀ i j, i < R → j < C → M' i j = mm R E M i j) : Fct R C M' R C M := Rwf.fct ⟨E, h⟩
theorem Fct.col {R C : Nat} {M M' F : Mx} (h : ∀ i j, i < R → j < C → M' i j = mm C M F i j) : Fct R C M' R C M :=
 ⟨oneM, F, fun i j hi hj => by rw [h i j hi hj]; exact mm_congr1 fun k _ => (oneM_mm hi).symm⟩
theorem Fct.row_back {R C : Nat} {M M' E E' : Mx} (h : ∀ i j, i < R → j < C → M' i j = mm R E M i j) (he : ∀ i j, i < R → j < R → mm R E' E i j = oneM i j) : Fct R C M R C M' :=
 Fct.row (E := E') fun i j hi hj => by
  rw [mm_congr2 (B' := mm R E M) fun k hk => h k j hk hj, ← mm_assoc, mm_congr1 (A' := oneM) fun k hk => he i k hi hk, oneM_mm hi]
theorem Fct.col_back {R C : Nat} {M M' F F' : Mx} (h : ∀ i j, i < R → j < C → M' i j = mm C M F i j) (he : ∀ i j, i < C → j < C → mm C F F' i j = oneM i j) : Fct R C M R C M' :=
 Fct.col (F := F') fun i j hi hj => by
  rw [mm_congr1 (A' := mm C M F) fun k hk => h i k hi hk, mm_assoc, mm_congr2 (B' := oneM) fun k hk => he k j hk hj, mm_oneM hj]
theorem oneM_tr (i j : Nat) : oneM i j = oneM j i := by
 unfold oneM
 by_cases e : i = j
 ·subst e; rfl
 ·rw [if_neg e, if_neg (fun h => e h.symm)]
def Both (C R : Nat) (M : Mx) (s : SS) : Prop := Fct R C (cell s.1 C) R C M ∧ Fct R C M R C (cell s.1 C)
theorem both_cl (C R t : Nat) (M : Mx) : Cl C R t (Both C R M) where
 add s s' i p q _ hi _ hp hne hs he hP := by
  have e := (rAdd3_ss hs he).2
  have h : ∀ a j, a < R → j < C → cell s'.1 C a j = mm R (eAdd i p q) (cell s.1 C) a j := fun a j ha hj => by
   rw [e, eAdd_mm hi hp ha]; exact cell_addR hs.la hi hj
  exact ⟨(Fct.row h).trans hP.1, hP.2.trans (Fct.row_back (E' := eAdd i p (-q)) h fun a j ha _ => by have := eAdd_inv (R := R) (t := -q) hi hp hne (j := j) ha; rwa [Int.neg_neg] at this)⟩
 sw s i p _ hi _ hp hne hs hP := by
  have h : ∀ a j, a < R → j < C → cell (rSw3 C R i p s).1 C a j = mm R (eSw i p) (cell s.1 C) a j := fun a j ha hj => by
   rw [eSw_mm hi hp ha]; exact cell_swR hs.la hi hp hne hj
  exact ⟨(Fct.row h).trans hP.1, hP.2.trans (Fct.row_back (E' := eSw i p) h fun a j ha _ => eSw_inv hi hp ha)⟩
 neg s i _ hi hs hP := by
  have h : ∀ a j, a < R → j < C → cell (rNeg3 C R i s).1 C a j = mm R (eNeg i) (cell s.1 C) a j := fun a j ha hj => by
   rw [eNeg_mm hi ha]; exact cell_negR hs.la hi hj
  exact ⟨(Fct.row h).trans hP.1, hP.2.trans (Fct.row_back (E' := eNeg i) h fun a j ha _ => eNeg_inv hi ha)⟩
 cadd s s' i p q _ hi _ hp hne hs he hP := by
  have e := (cAdd3_ss hs he).2
  have h : ∀ a j, a < R → j < C → cell s'.1 C a j = mm C (cell s.1 C) (fun k c => eAdd i p q c k) a j := fun a j ha hj => by
   rw [e, mm_tr, eAdd_mm hi hp hj]; exact cell_cAdd ha hj
  exact ⟨(Fct.col h).trans hP.1, hP.2.trans (Fct.col_back (F' := fun k c => eAdd i p (-q) c k) h fun a j ha hj => by
   rw [mm_tr]
   have := eAdd_inv (R := C) (t := -q) hi hp hne (j := a) hj
   rw [Int.neg_neg] at this
   rw [oneM_tr]; exact this)⟩
 csw s i p _ hi _ hp hne hs hP := by
  have h : ∀ a j, a < R → j < C → cell (cSw3 C R i p s).1 C a j = mm C (cell s.1 C) (fun k c => eSw i p c k) a j := fun a j ha hj => by
   rw [mm_tr, eSw_mm hi hp hj]; exact cell_cSw ha hj
  exact ⟨(Fct.col h).trans hP.1, hP.2.trans (Fct.col_back (F' := fun k c => eSw i p c k) h fun a j ha hj => by
   rw [mm_tr, oneM_tr]; exact eSw_inv hi hp hj)⟩
def Keeps (C R t : Nat) (s0 s : SS) : Prop := (∀ i j, i < R → j < C → (i < t ∨ j < t) → cell s.1 C i j = cell s0.1 C i j) ∧ ∀ e : Int, (∀ i j, t ≤ i → i < R → t ≤ j → j < C → e ∣ cell s0.1 C i j) → ∀ i j, t ≤ i → i < R → t ≤ j → j < C → e ∣ cell s.1 C i j
def Zs (C R t : Nat) (s : SS) : Prop := ∀ i j, i < R → j < C → i ≠ j → (i < t ∨ j < t) → cell s.1 C i j = 0
theorem keeps_cl {C R t : Nat} {s0 : SS} (hz : Zs C R t s0) : Cl C R t (Keeps C R t s0) where
 add s s' i p q hti hi htp hp _ hs he hP := by
  have e := (rAdd3_ss hs he).2
  have h : ∀ a j, j < C → cell s'.1 C a j = if a = i then cell s.1 C i j + cell s.1 C p j * q else cell s.1 C a j := fun a j hj => by rw [e]; exact cell_addR hs.la hi hj
  refine ⟨fun a j ha hj hlt => ?_, fun d hd a j hta ha htj hj => ?_⟩
  ·rw [h a j hj]
   by_cases ea : a = i
   ·subst ea
    rw [if_pos rfl, hP.1 a j hi hj hlt, hP.1 p j hp hj (.inr (by omega)), hz p j hp hj (by omega) (.inr (by omega))]; omega
   ·rw [if_neg ea]; exact hP.1 a j ha hj hlt
  ·rw [h a j hj]
   split
   ·exact Int.dvd_add (hP.2 d hd i j hti hi htj hj) (Int.dvd_trans (hP.2 d hd p j htp hp htj hj) (Int.dvd_mul_right _ _))
   ·exact hP.2 d hd a j hta ha htj hj
 sw s i p hti hi htp hp hne hs hP := by
  have h : ∀ a j, j < C → cell (rSw3 C R i p s).1 C a j = if a = i then cell s.1 C p j else if a = p then cell s.1 C i j else cell s.1 C a j := fun a j hj => cell_swR hs.la hi hp hne hj
  refine ⟨fun a j ha hj hlt => ?_, fun d hd a j hta ha htj hj => ?_⟩
  ·rw [h a j hj]
   by_cases ea : a = i
   ·subst ea
    rw [if_pos rfl, hP.1 p j hp hj (.inr (by omega)), hz p j hp hj (by omega) (.inr (by omega)), hz a j ha hj (by omega) (.inr (by omega))]
   ·rw [if_neg ea]
    by_cases ep : a = p
    ·subst ep
     rw [if_pos rfl, hP.1 i j hi hj (.inr (by omega)), hz i j hi hj (by omega) (.inr (by omega)), hz a j ha hj (by omega) (.inr (by omega))]
    ·rw [if_neg ep]; exact hP.1 a j ha hj hlt
  ·rw [h a j hj]
   split
   ·exact hP.2 d hd p j htp hp htj hj
   ·split
    ·exact hP.2 d hd i j hti hi htj hj
    ·exact hP.2 d hd a j hta ha htj hj
 neg s i hti hi hs hP := by
  have h : ∀ a j, j < C → cell (rNeg3 C R i s).1 C a j = if a = i then -cell s.1 C i j else cell s.1 C a j := fun a j hj => cell_negR hs.la hi hj
  refine ⟨fun a j ha hj hlt => ?_, fun d hd a j hta ha htj hj => ?_⟩
  ·rw [h a j hj]
   by_cases ea : a = i
   ·subst ea
    rw [if_pos rfl, hP.1 a j ha hj hlt, hz a j ha hj (by omega) (.inr (by omega))]; rfl
   ·rw [if_neg ea]; exact hP.1 a j ha hj hlt
  ·rw [h a j hj]
   split
   ·exact Int.dvd_neg.2 (hP.2 d hd i j hti hi htj hj)
   ·exact hP.2 d hd a j hta ha htj hj
 cadd s s' i p q hti hi htp hp _ hs he hP := by
  have e := (cAdd3_ss hs he).2
  have h : ∀ a j, a < R → j < C → cell s'.1 C a j = if j = i then cell s.1 C a i + cell s.1 C a p * q else cell s.1 C a j := fun a j ha hj => by rw [e]; exact cell_cAdd ha hj
  refine ⟨fun a j ha hj hlt => ?_, fun d hd a j hta ha htj hj => ?_⟩
  ·rw [h a j ha hj]
   by_cases ea : j = i
   ·subst ea
    rw [if_pos rfl, hP.1 a j ha hj hlt, hP.1 a p ha hp (.inl (by omega)), hz a p ha hp (by omega) (.inl (by omega))]; omega
   ·rw [if_neg ea]; exact hP.1 a j ha hj hlt
  ·rw [h a j ha hj]
   split
   ·exact Int.dvd_add (hP.2 d hd a i hta ha hti hi) (Int.dvd_trans (hP.2 d hd a p hta ha htp hp) (Int.dvd_mul_right _ _))
   ·exact hP.2 d hd a j hta ha htj hj
 csw s i p hti hi htp hp _ hs hP := by
  have h : ∀ a j, a < R → j < C → cell (cSw3 C R i p s).1 C a j = if j = i then cell s.1 C a p else if j = p then cell s.1 C a i else cell s.1 C a j := fun a j ha hj => cell_cSw ha hj
  refine ⟨fun a j ha hj hlt => ?_, fun d hd a j hta ha htj hj => ?_⟩
  ·rw [h a j ha hj]
   by_cases ea : j = i
   ·subst ea
    rw [if_pos rfl, hP.1 a p ha hp (.inl (by omega)), hz a p ha hp (by omega) (.inl (by omega)), hz a j ha hj (by omega) (.inl (by omega))]
   ·rw [if_neg ea]
    by_cases ep : j = p
    ·subst ep
     rw [if_pos rfl, hP.1 a i ha hi (.inl (by omega)), hz a i ha hi (by omega) (.inl (by omega)), hz a j ha hj (by omega) (.inl (by omega))]
    ·rw [if_neg ep]; exact hP.1 a j ha hj hlt
  ·rw [h a j ha hj]
   split
   ·exact hP.2 d hd a p hta ha htp hp
   ·split
    ·exact hP.2 d hd a i hta ha hti hi
    ·exact hP.2 d hd a j hta ha htj hj
structure Dn (C R t : Nat) (s : SS) : Prop where
 zs : Zs C R t s
 pos : ∀ i, i < t → 0 < cell s.1 C i i
 dv : ∀ i, i < t → ∀ i' j', i ≤ i' → i' < R → i ≤ j' → j' < C → cell s.1 C i i ∣ cell s.1 C i' j'
theorem Dn.next {C R t : Nat} (ht : t < R) (htC : t < C) {s0 s : SS} (h : Dn C R t s0) (hs : Ss C R s) (hk : Keeps C R t s0 s) (h1 : ∀ i, t < i → i < R → cell s.1 C i t = 0) (h2 : ∀ j, t < j → j < C → cell s.1 C t j = 0) (h3 : ∀ i j, t < i → i < R → t < j → j < C → cell s.1 C t t ∣ cell s.1 C i j) (hne : cell s.1 C t t ≠ 0) : Dn C R (t + 1) (sNeg C R t s) := by
 have hk2 : Keeps C R t s0 (sNeg C R t s) := by
  unfold sNeg
  split
  ·exact (keeps_cl h.zs).neg _ _ (Nat.le_refl _) ht hs hk
  ·exact hk
 obtain ⟨hc, hpos⟩ : (∀ a j, j < C → cell (sNeg C R t s).1 C a j = cell s.1 C a j ∨ (a = t ∧ cell (sNeg C R t s).1 C a j = -cell s.1 C a j)) ∧ 0 < cell (sNeg C R t s).1 C t t := by
  unfold sNeg
  split
  ·rename_i hlt
   have hcell : ∀ a j, j < C → cell (rNeg3 C R t s).1 C a j = if a = t then -cell s.1 C t j else cell s.1 C a j := fun a j hj => cell_negR hs.la ht hj
   refine ⟨fun a j hj => ?_, ?_⟩
   ·rw [hcell a j hj]
    by_cases e : a = t
    ·subst e; rw [if_pos rfl]; exact .inr ⟨rfl, rfl⟩
    ·rw [if_neg e]; exact .inl rfl
   ·rw [hcell t t htC, if_pos rfl]; omega
  ·exact ⟨fun _ _ _ => .inl rfl, by omega⟩
 have hz : ∀ a j, j < C → cell s.1 C a j = 0 → cell (sNeg C R t s).1 C a j = 0 := fun a j hj hz => by
  rcases hc a j hj with e | ⟨_, e⟩
  ·rw [e, hz]
  ·rw [e, hz]; rfl
 have htt : cell (sNeg C R t s).1 C t t = cell s.1 C t t ∨ cell (sNeg C R t s).1 C t t = -cell s.1 C t t := (hc t t htC).imp_right fun h => h.2
 have hdd : ∀ x, cell s.1 C t t ∣ x → cell (sNeg C R t s).1 C t t ∣ x := fun x hx => by
  rcases htt with e | e
  ·rw [e]; exact hx
  ·rw [e]; exact Int.neg_dvd.2 hx
 refine ⟨fun i j hi hj hij hlt => ?_, fun i hi => ?_, fun i hi i' j' hii hi' hij hj' => ?_⟩
 ·by_cases e : i < t ∨ j < t
  ·rw [hk2.1 i j hi hj e]; exact h.zs i j hi hj hij e
  ·by_cases ei : i = t
   ·subst ei; exact hz i j hj (h2 j (by omega) hj)
   ·have ej : j = t := by omega
    subst ej; exact hz i j hj (h1 i (by omega) hi)
 ·by_cases e : i = t
  ·subst e; exact hpos
  ·rw [hk2.1 i i (by omega) (by omega) (.inl (by omega))]; exact h.pos i (by omega)
 ·by_cases e : i = t
  ·subst e
   by_cases e1 : i' = i
   ·by_cases e2 : j' = i
    ·rw [e1, e2]; exact Int.dvd_refl _
    ·rw [e1, hz i j' hj' (h2 j' (by omega) hj')]; exact Int.dvd_zero _
   ·by_cases e2 : j' = i
    ·rw [e2, hz i' i htC (h1 i' (by omega) hi')]; exact Int.dvd_zero _
    ·rcases hc i' j' hj' with e3 | ⟨e3, _⟩
     ·rw [e3]; exact hdd _ (h3 i' j' (by omega) hi' (by omega) hj')
     ·exact (e1 e3).elim
  ·rw [hk2.1 i i (by omega) (by omega) (.inl (by omega))]
   by_cases e1 : i' < t ∨ j' < t
   ·rw [hk2.1 i' j' hi' hj' e1]; exact h.dv i (by omega) i' j' hii hi' hij hj'
   ·exact hk2.2 _ (fun a b ha ha' hb hb' => h.dv i (by omega) a b (by omega) ha' (by omega) hb') i' j' (by omega) hi' (by omega) hj'
theorem sAll_diag {C R : Nat} {M : Mx} : ∀ {n t : Nat} {s s' : SS}, t + n = min R C → Ss C R s → Both C R M s → Dn C R t s → sAll C R n t s = some s' → Both C R M s' ∧ ∃ k, k ≤ min R C ∧ Dn C R k s' ∧ ∀ i j, k ≤ i → i < R → k ≤ j → j < C → cell s'.1 C i j = 0
 | 0, t, s, s', ht, hs, hB, hD, h => by
  obtain rfl := Option.some.inj h
  exact ⟨hB, t, by omega, hD, fun i j h1 h2 h3 h4 => by omega⟩
 | n + 1, t, s, s', ht, hs, hB, hD, h => by
  simp only [sAll] at h
  split at h
  ·rename_i hl
   obtain rfl := Option.some.inj h
   refine ⟨hB, t, by omega, hD, fun i j h1 h2 h3 h4 => ?_⟩
   rcases leastS_ok s.1 (C := C) (R := R) (t := t) (by omega) (by omega) with ⟨_, h0⟩ | ⟨r, c, h0, _⟩
   ·exact h0 i j ⟨h1, h2, h3, h4⟩
   ·rw [h0] at hl; simp only at hl; omega
  ·rename_i hp
   cases ha : sA C R t s with
   | none => rw [ha] at h; cases h
   | some s1 =>
    rw [ha] at h
    have hs1 := sLoop_ss (show t < R by omega) (by omega) hs (by omega) ha
    obtain ⟨b1, -⟩ := (both_cl C R t M).loop (by omega) (by omega) hs hB (by omega) ha
    obtain ⟨k1, q1, q2, q3, q4⟩ := (keeps_cl hD.zs).loop (by omega) (by omega) hs ⟨fun _ _ _ _ _ => rfl, fun _ h => h⟩ (by omega) ha
    have hB2 : Both C R M (sNeg C R t s1) := by
     unfold sNeg
     split
     ·exact (both_cl C R t M).neg _ _ (Nat.le_refl _) (by omega) hs1 b1
     ·exact b1
    exact sAll_diag (by omega) (sNeg_ss hs1) hB2 (hD.next (by omega) (by omega) hs1 k1 q1 q2 q3 q4) h
theorem smith_diag {m : List Int} {R C : Nat} (hl : m.length = R * C) (hm : NumL m) {s : SS} (h : smith m R C = some s) : Both C R (cell m C) s ∧ ∃ k, k ≤ min R C ∧ Dn C R k s ∧ ∀ i j, k ≤ i → i < R → k ≤ j → j < C → cell s.1 C i j = 0 :=
 sAll_diag (by omega) ⟨hl, idL_len R, idL_len C, hm, idL_num R, idL_num C⟩ ⟨Fct.refl _ _ _, Fct.refl _ _ _⟩ ⟨fun i j _ _ _ h => by omega, fun i h => by omega, fun i h => by omega⟩ h
def dS (L : List Int) : Nat → Int := fun i => L.getD i 0
theorem facP_eq {m : List Int} {C : Nat} : ∀ {n k : Nat}, k ≤ n → (∀ i, i < k → cell m C i i ≠ 0) → (∀ i, k ≤ i → i < n → cell m C i i = 0) → facP m C n = (List.range k).map fun i => cell m C i i
 | 0, k, hk, _, _ => by
  obtain rfl : k = 0 := by omega
  rfl
 | n + 1, k, hk, h1, h2 => by
  by_cases e : k = n + 1
  ·subst e
   rw [facP_yes (h1 n (by omega)), facP_eq (Nat.le_refl n) (fun i hi => h1 i (by omega)) (fun i hi hi' => by omega), List.range_succ, List.map_append]; rfl
  ·rw [facP_no (h2 n (by omega) (by omega))]
   exact facP_eq (by omega) h1 fun i hi hi' => h2 i hi (by omega)
structure Fac (m : Mat) (R C : Nat) (L : List Int) : Prop where
 rows : m.rows = (R : Int)
 cols : m.cols = (C : Int)
 len : m.cells.length = R * C
 le : L.length ≤ min R C
 pos : ∀ i, i < L.length → 0 < dS L i
 dv : ∀ i j, i ≤ j → dS L i ∣ dS L j
 fw : Fct R C (Dg (dS L)) R C (cell m.cells C)
 bw : Fct R C (cell m.cells C) R C (Dg (dS L))
theorem fac_of {m : Mat} (h : facOk m = true) : ∃ R C, Fac m R C (facB m) := by
 cases hB : isMatB m with
 | false => rw [(fac_none (facR_no hB)).1] at h; cases h
 | true =>
  obtain ⟨R, C, hmr, hmc, hR, hC, hl, hnum⟩ := isMatB_shape hB
  obtain ⟨mr, mc, cells⟩ := m
  simp only at hmr hmc hl hnum
  subst hmr
  subst hmc
  cases hs : smith cells R C with
  | none =>
   have := facR_mat hB
   rw [hs] at this
   rw [(fac_none this).1] at h; cases h
  | some s =>
   have h1 := facR_mat hB
   rw [hs] at h1
   have h2 : facB { rows := (R : Int), cols := (C : Int), cells := cells } = facP s.1 C (min R C) := (fac_some h1).2
   obtain ⟨⟨b1, b2⟩, k, hk, hD, hz⟩ := smith_diag hl hnum hs
   have h3 : facP s.1 C (min R C) = (List.range k).map fun i => cell s.1 C i i := facP_eq hk (fun i hi => by have := hD.pos i hi; omega) fun i hi hi' => hz i i hi (by omega) hi (by omega)
   rw [h2, h3]
   have hd : ∀ i, dS ((List.range k).map fun i => cell s.1 C i i) i = if i < k then cell s.1 C i i else 0 := fun i => by
    unfold dS
    rw [List.getD_eq_getElem?_getD, List.getElem?_map]
    by_cases e : i < k
    ·rw [if_pos e, List.getElem?_range e]; rfl
    ·rw [if_neg e, List.getElem?_eq_none (by simp; omega)]; rfl
   have hdg : ∀ i j, i < R → j < C → Dg (dS ((List.range k).map fun i => cell s.1 C i i)) i j = cell s.1 C i j := fun i j hi hj => by
    by_cases e : i = j
    ·subst e
     rw [Dg_self, hd]
     by_cases e2 : i < k
     ·rw [if_pos e2]
     ·rw [if_neg e2, hz i i (by omega) hi (by omega) hj]
    ·rw [Dg_ne e]
     by_cases e2 : i < k ∨ j < k
     ·rw [hD.zs i j hi hj e e2]
     ·rw [hz i j (by omega) hi (by omega) hj]
   refine ⟨R, C, rfl, rfl, hl, by simpa using hk, fun i hi => ?_, fun i j hij => ?_, (Fct.of_eq hdg).trans b1, b2.trans (Fct.of_eq fun i j hi hj => (hdg i j hi hj).symm)⟩
   ·have hi : i < k := by simpa using hi
    rw [hd, if_pos hi]; exact hD.pos i hi
   ·rw [hd, hd]
    by_cases e : j < k
    ·rw [if_pos e, if_pos (by omega)]
     exact hD.dv i (by omega) j j hij (by omega) hij (by omega)
    ·rw [if_neg e]; exact Int.dvd_zero _
theorem dS_ge {L : List Int} {i : Nat} (h : L.length ≤ i) : dS L i = 0 := by
 unfold dS; rw [List.getD_eq_getElem?_getD, List.getElem?_eq_none h]; rfl
theorem dS_inj {L L' : List Int} (h : ∀ i, i < L.length → 0 < dS L i) (h' : ∀ i, i < L'.length → 0 < dS L' i) (e : ∀ i, dS L i = dS L' i) : L = L' := by
 have hl : L.length = L'.length := by
  rcases Nat.lt_trichotomy L.length L'.length with hlt | he | hlt
  ·have h1 := h' _ hlt
   rw [← e, dS_ge (Nat.le_refl _)] at h1; omega
  ·exact he
  ·have h1 := h _ hlt
   rw [e, dS_ge (Nat.le_refl _)] at h1; omega
 refine List.ext_getElem hl fun i h1 h2 => ?_
 have := e i
 unfold dS at this
 rwa [List.getD_eq_getElem?_getD, List.getD_eq_getElem?_getD, List.getElem?_eq_getElem h1, List.getElem?_eq_getElem h2] at this
end Go.Proofs.Ytjepiemflpjjhaa

namespace Go.Proofs.Ytjepiemflpjjhaa
--BODY
theorem sg_le {T N : Nat} {Z : Mx} (h : ∀ y : Nat → Int, (∀ i, i < T → sm N (fun j => Z i j * y j) = 0) → ∀ j, j < N → y j = 0) : N ≤ T := by
 by_cases hlt : N ≤ T
 ·exact hlt
 ·obtain ⟨y, -, ⟨j, hj, hne⟩, hy⟩ := siegelF T N Z (by omega)
  exact (hne (h y hy j hj)).elim
theorem dot_lin (n k : Nat) (r : Nat → Int) (B : Mx) (y : Nat → Int) : sm n (fun c => r c * sm k fun b => B c b * y b) = sm k fun b => (sm n fun c => r c * B c b) * y b := by
 rw [sm_congr (g := fun c => sm k fun b => r c * B c b * y b) fun c _ => by rw [← sm_mul]; exact sm_congr fun b _ => (Int.mul_assoc _ _ _).symm, sm_swap]
 exact sm_congr fun b _ => sm_mulr _ _ _
structure EcF (m : Mat) (R C T : Nat) (z : List Int) (p : Nat → Nat) : Prop where
 rows : m.rows = (R : Int)
 cols : m.cols = (C : Int)
 len : m.cells.length = R * C
 eq : ecT m = T
 pv : Pvs C R z C T p
 ker : ∀ x : Nat → Int, (∀ i, i < R → sm C (fun k => cell m.cells C i k * x k) = 0) ↔ ∀ i, i < R → sm C (fun k => cell z C i k * x k) = 0
theorem EcF.inj {m : Mat} {R C T : Nat} {z : List Int} {p : Nat → Nat} (h : EcF m R C T z p) {a b : Nat} (ha : a < T) (hb : b < T) (e : p a = p b) : a = b := by
 by_cases hab : a = b
 ·exact hab
 ·have h1 := (h.pv.piv b hb).2.2 a (by have := h.pv.le; omega) hab
  rw [← e] at h1
  exact ((h.pv.piv a ha).2.1 h1).elim
theorem EcF.zero {m : Mat} {R C T : Nat} {z : List Int} {p : Nat → Nat} (h : EcF m R C T z p) {y : Nat → Int} (hz : ∀ i, i < R → sm C (fun c => cell m.cells C i c * sm T fun l => oneM c (p l) * y l) = 0) : ∀ l, l < T → y l = 0 := fun l hl => by
 obtain ⟨q1, q2, q3⟩ := h.pv.piv l hl
 have hle := h.pv.le
 have h1 := (h.ker fun c => sm T fun l => oneM c (p l) * y l).1 hz l (by omega)
 rw [dot_lin] at h1
 have e : ∀ b, b < T → (sm C fun c => cell z C l c * oneM c (p b)) = cell z C l (p b) := fun b hb => by
  have := mm_oneM (n := C) (A := cell z C) (i := l) (j := p b) (h.pv.piv b hb).1
  exact this
 rw [sm_congr (g := fun b => cell z C l (p b) * y b) fun b hb => by rw [e b hb], sm_one hl fun b hb hne => by rw [(h.pv.piv b hb).2.2 l (by omega) (Ne.symm hne), Int.zero_mul]] at h1
 rcases Int.mul_eq_zero.1 h1 with h2 | h2
 ·exact (q2 h2).elim
 ·exact h2
theorem ind_le {N T C : Nat} {A B : Mx} (hi : Ind N C A) (h : Rwf N A T C B) : N ≤ T := by
 obtain ⟨X, hX⟩ := h
 refine sg_le (Z := fun k i => X i k) fun y hy => hi y fun j hj => ?_
 rw [sm_congr (g := fun i => y i * mm T X B i j) fun i hi' => by rw [hX i j hi' hj]]
 show mm N (fun _ => y) (mm T X B) 0 j = 0
 rw [← mm_assoc]
 exact sm_zero fun k hk => by
  have : mm N (fun _ => y) X 0 k = 0 := by
   rw [← hy k hk]; exact sm_congr fun i _ => Int.mul_comm _ _
  rw [this, Int.zero_mul]
theorem kern_count {m : Mat} {R N : Nat} {b : List Int} (hk : Kern m R N b) (h : kerOk m = true) : ∃ C t bb, Bas m C t bb ∧ basOk m = true ∧ N + t = R := by
 obtain ⟨C, s, hc, hl, hnum, hC, hh, hbk, hb⟩ := kern_parts hk h
 obtain ⟨hU, W, hw1, hw2⟩ := herm_fact hl hnum hh
 obtain ⟨hs, t, ht, hE⟩ := herm_spec hl hnum hh
 have et := ech_last hE R (Nat.le_refl _) ht
 obtain ⟨Q, hQ, hlQ, hf, hg⟩ := bas_rows hb hbk
 have hQt : Q = R - t := by
  have : (kernM s C R).rows = ((R - lastN s.1 C R : Nat) : Int) := rfl
  rw [this, et] at hQ; omega
 have hcell : ∀ i k, cell (kernM s C R).cells R i k = cell s.2 R (t + i) k := fun i k => by
  show cell (s.2.drop (lastN s.1 C R * R)) R i k = _
  rw [et]; exact cell_drop
 have hB : isMatB m = true := by
  cases hB : isMatB m with
  | true => rfl
  | false =>
   have := (kerB_none (m := m) (by unfold hermR; rw [hB]; rfl)).1
   rw [this] at h; cases h
 have hm : m = { rows := (R : Int), cols := (C : Int), cells := m.cells } := by
  obtain ⟨mr, mc, cells⟩ := m
  have := hk.rows
  simp only at this hc
  rw [this, hc]
 have hB2 := hB
 rw [hm] at hB2
 have hok := (basB_some hB2 hh).1
 rw [← hm] at hok
 obtain ⟨C', N', b', hb'⟩ := bas_of hok
 have hcc := hb'.cols
 obtain rfl : C' = C := by omega
 have e1 := hb'.eq
 rw [hm, (basB_some hB2 hh).2, et] at e1
 have e3 := congrArg Mat.rows e1
 simp only at e3
 obtain rfl : N' = t := by omega
 refine ⟨C', N', b', hb', hok, ?_⟩
 have hK0 : Ind Q R (cell (kernM s C' R).cells R) := fun a ha => by
  intro i hi
  have e0 : mm R (mm Q (fun _ => a) (cell (kernM s C' R).cells R)) (fun r j => W r (N' + j)) 0 i = a i := by
   rw [mm_assoc, mm_congr2 (B' := oneM) fun q hq => ?_, mm_oneM hi]
   have e4 : mm R (cell (kernM s C' R).cells R) (fun r j => W r (N' + j)) q i = mm R (cell s.2 R) W (N' + q) (N' + i) := sm_congr fun r _ => by rw [hcell]
   rw [e4, hw1 (N' + q) (N' + i) (by omega) (by omega)]
   unfold oneM
   by_cases e : q = i
   ·rw [if_pos e, if_pos (by omega)]
   ·rw [if_neg e, if_neg (by omega)]
  rw [← e0]
  exact sm_zero fun r hr => by
   have : mm Q (fun _ => a) (cell (kernM s C' R).cells R) 0 r = 0 := ha r hr
   rw [this, Int.zero_mul]
 have h5 := ind_le hK0 hg
 have h6 := ind_le (bas_ind hb hbk) hf
 omega
--END
end Go.Proofs.Ytjepiemflpjjhaa

namespace Go.Proofs.Ytjepiemflpjjhaa
open Go.RowKit
--BODY
structure Chn (L : List Int) : Prop where
 pos : ∀ i, i < L.length → 0 < dS L i
 dv : ∀ i j, i ≤ j → dS L i ∣ dS L j
theorem Fac.chn {m : Mat} {R C : Nat} {L : List Int} (h : Fac m R C L) : Chn L := ⟨h.pos, h.dv⟩
theorem chn_same {L L' : List Int} {R C R' C' : Nat} (h : Chn L) (h' : Chn L') (hl : L.length ≤ min R C) (hl' : L'.length ≤ min R' C') (hf : Fct R' C' (Dg (dS L')) R C (Dg (dS L))) (hg : Fct R C (Dg (dS L)) R' C' (Dg (dS L'))) : L = L' := by
 have nn : ∀ {L : List Int}, Chn L → ∀ i, 0 ≤ dS L i := fun {L} hc i => by
  by_cases e : i < L.length
  ·exact Int.le_of_lt (hc.pos i e)
  ·rw [dS_ge (by omega)]; exact Int.le_refl _
 have dd : ∀ {L L' : List Int} {R C R' C' : Nat}, Chn L → Chn L' → L'.length ≤ min R' C' → Fct R' C' (Dg (dS L')) R C (Dg (dS L)) → ∀ i, dS L i ∣ dS L' i := fun {L L' R C R' C'} h h' hl hf i => by
  by_cases hi : i < L'.length
  ·exact fct_dvd h.dv h'.dv hf (by omega) (by omega)
  ·rw [dS_ge (L := L') (by omega)]; exact Int.dvd_zero _
 exact dS_inj h.pos h'.pos fun i => Int.dvd_antisymm (nn h i) (nn h' i) (dd h h' hl' hf i) (dd h' h hl hg i)
theorem Fct.re {R' C' R C : Nat} {M' M : Mx} (f g : Nat → Nat) (hf : ∀ i, i < R' → f i < R) (hg : ∀ j, j < C' → g j < C) (h : ∀ i j, i < R' → j < C' → M' i j = M (f i) (g j)) : Fct R' C' M' R C M := by
 refine ⟨fun i a => oneM (f i) a, fun b j => oneM b (g j), fun i j hi hj => ?_⟩
 have e1 : ∀ b, mm R (fun i a => oneM (f i) a) M i b = M (f i) b := fun b => by
  have := oneM_mm (n := R) (A := M) (i := f i) (j := b) (hf i hi)
  exact this
 have e2 : mm C (mm R (fun i a => oneM (f i) a) M) (fun b j => oneM b (g j)) i j = mm C (fun _ b => M (f i) b) oneM i (g j) := sm_congr fun b _ => by rw [e1]
 rw [h i j hi hj, e2, mm_oneM (hg j hj)]
def skip (r i : Nat) : Nat := if i < r then i else i + 1
def back (r i : Nat) : Nat := if i < r then i else i - 1
theorem skip_ne (r i : Nat) : skip r i ≠ r := by unfold skip; split <;> omega
theorem skip_back {r i : Nat} (h : i ≠ r) : skip r (back r i) = i := by
 unfold skip back
 by_cases h1 : i < r
 ·rw [if_pos h1, if_pos h1]
 ·rw [if_neg h1, if_neg (by omega)]; omega
theorem skip_lt {r i n : Nat} (h : i < n) : skip r i < n + 1 := by unfold skip; split <;> omega
theorem back_lt {r i n : Nat} (h : i < n + 1) (hne : i ≠ r) (hr : r < n + 1) : back r i < n := by unfold back; split <;> omega
theorem sm_skip {r : Nat} {f : Nat → Int} : ∀ {n : Nat}, r ≤ n → sm (n + 1) f = f r + sm n fun i => f (skip r i)
 | 0, h => by
  obtain rfl : r = 0 := by omega
  simp [sm]
 | n + 1, h => by
  by_cases e : r = n + 1
  ·subst e
   show sm (n + 1) f + f (n + 1) = _
   have : sm (n + 1) (fun i => f (skip (n + 1) i)) = sm (n + 1) f := sm_congr fun i hi => by unfold skip; rw [if_pos hi]
   rw [this]; omega
  ·show sm (n + 1) f + f (n + 1) = f r + (sm n (fun i => f (skip r i)) + f (skip r n))
   rw [sm_skip (r := r) (f := f) (n := n) (by omega)]
   have : skip r n = n + 1 := by unfold skip; rw [if_neg (by omega)]
   rw [this]; omega
def ext (R C : Nat) (M : Mx) : Mx := fun i j => if i < R ∧ j < C then M i j else if i = R ∧ j = C then 1 else 0
theorem ext_in {R C i j : Nat} {M : Mx} (h : i < R) (h' : j < C) : ext R C M i j = M i j := if_pos ⟨h, h'⟩
theorem ext_row {R C j : Nat} {M : Mx} (h : j ≠ C) : ext R C M R j = 0 := by
 unfold ext; rw [if_neg (by omega), if_neg (by omega)]
theorem ext_col {R C i : Nat} {M : Mx} (h : i ≠ R) : ext R C M i C = 0 := by
 unfold ext; rw [if_neg (by omega), if_neg (by omega)]
theorem ext_one {R C : Nat} {M : Mx} : ext R C M R C = 1 := by
 unfold ext; rw [if_neg (by omega), if_pos ⟨rfl, rfl⟩]
theorem ext_mm {m n k i j : Nat} {A B : Mx} (hi : i < m + 1) (hj : j < k + 1) : mm (n + 1) (ext m n A) (ext n k B) i j = ext m k (mm n A B) i j := by
 show sm n (fun q => ext m n A i q * ext n k B q j) + ext m n A i n * ext n k B n j = _
 by_cases ei : i = m
 ·subst ei
  rw [sm_zero fun q hq => by rw [ext_row (by omega), Int.zero_mul], ext_one, Int.zero_add, Int.one_mul]
  by_cases ej : j = k
  ·subst ej; rw [ext_one, ext_one]
  ·rw [ext_row ej, ext_row ej]
 ·rw [ext_col ei, Int.zero_mul, Int.add_zero]
  by_cases ej : j = k
  ·subst ej
   rw [sm_zero fun q hq => by rw [ext_col (by omega), Int.mul_zero], ext_col ei]
  ·rw [ext_in (by omega) (by omega)]
   exact sm_congr fun q hq => by rw [ext_in (by omega) hq, ext_in hq (by omega)]
theorem ext_congr {R C i j : Nat} {M M' : Mx} (h : i < R → j < C → M i j = M' i j) : ext R C M i j = ext R C M' i j := by
 unfold ext
 by_cases e : i < R ∧ j < C
 ·rw [if_pos e, if_pos e, h e.1 e.2]
 ·rw [if_neg e, if_neg e]
theorem Fct.ext {R' C' R C : Nat} {M' M : Mx} (h : Fct R' C' M' R C M) : Fct (R' + 1) (C' + 1) (ext R' C' M') (R + 1) (C + 1) (ext R C M) := by
 obtain ⟨A, B, h⟩ := h
 refine ⟨Go.Proofs.Ytjepiemflpjjhaa.ext R' R A, Go.Proofs.Ytjepiemflpjjhaa.ext C C' B, fun i j hi hj => ?_⟩
 rw [mm_congr1 (A' := Go.Proofs.Ytjepiemflpjjhaa.ext R' C (mm R A M)) fun k hk => ext_mm hi hk, ext_mm hi hj]
 exact ext_congr fun h1 h2 => h i j h1 h2
theorem dS_cons (L : List Int) (i : Nat) : dS (1 :: L) (i + 1) = dS L i := rfl
theorem chn_cons {L : List Int} (h : Chn L) : Chn (1 :: L) := by
 refine ⟨fun i hi => ?_, fun i j hij => ?_⟩
 ·cases i with
  | zero => show (0 : Int) < 1; omega
  | succ i => rw [dS_cons]; exact h.pos i (by simpa using hi)
 ·cases i with
  | zero => exact Int.one_dvd _
  | succ i =>
   cases j with
   | zero => omega
   | succ j => rw [dS_cons, dS_cons]; exact h.dv i j (by omega)
theorem ext_dg {R C : Nat} (L : List Int) : Fct (R + 1) (C + 1) (ext R C (Dg (dS L))) (R + 1) (C + 1) (Dg (dS (1 :: L))) ∧ Fct (R + 1) (C + 1) (Dg (dS (1 :: L))) (R + 1) (C + 1) (ext R C (Dg (dS L))) := by
 constructor
 ·refine Fct.re (fun i => if i = R then 0 else i + 1) (fun j => if j = C then 0 else j + 1) (fun i hi => by split <;> omega) (fun j hj => by split <;> omega) fun i j hi hj => ?_
  by_cases ei : i = R
  ·subst ei
   rw [if_pos rfl]
   by_cases ej : j = C
   ·subst ej; rw [ext_one, if_pos rfl, Dg_self]; rfl
   ·rw [ext_row ej, if_neg ej, Dg_ne (by omega)]
  ·rw [if_neg ei]
   by_cases ej : j = C
   ·subst ej; rw [ext_col ei, if_pos rfl, Dg_ne (by omega)]
   ·rw [ext_in (by omega) (by omega), if_neg ej]
    by_cases e : i = j
    ·subst e; rw [Dg_self, Dg_self, dS_cons]
    ·rw [Dg_ne e, Dg_ne (by omega)]
 ·refine Fct.re (fun i => if i = 0 then R else i - 1) (fun j => if j = 0 then C else j - 1) (fun i hi => by split <;> omega) (fun j hj => by split <;> omega) fun i j hi hj => ?_
  by_cases ei : i = 0
  ·subst ei
   rw [if_pos rfl]
   by_cases ej : j = 0
   ·subst ej; rw [if_pos rfl, ext_one, Dg_self]; rfl
   ·rw [if_neg ej, ext_row (by omega), Dg_ne (by omega)]
  ·rw [if_neg ei]
   by_cases ej : j = 0
   ·subst ej; rw [if_pos rfl, ext_col (by omega), Dg_ne (by omega)]
   ·rw [if_neg ej, ext_in (by omega) (by omega)]
    obtain ⟨i, rfl⟩ : ∃ q, i = q + 1 := ⟨i - 1, by omega⟩
    obtain ⟨j, rfl⟩ : ∃ q, j = q + 1 := ⟨j - 1, by omega⟩
    by_cases e : i = j
    ·subst e; rw [Dg_self, Nat.add_sub_cancel, Dg_self, dS_cons]
    ·rw [Dg_ne (by omega), Dg_ne (by omega)]
def Sm (R C : Nat) (M : Mx) (L : List Int) : Prop := Chn L ∧ ∃ R' C', L.length ≤ min R' C' ∧ Fct R C M R' C' (Dg (dS L)) ∧ Fct R' C' (Dg (dS L)) R C M
theorem Sm.uniq {R C : Nat} {M : Mx} {L L' : List Int} (h : Sm R C M L) (h' : Sm R C M L') : L = L' := by
 obtain ⟨c, R1, C1, l1, f1, g1⟩ := h
 obtain ⟨c', R2, C2, l2, f2, g2⟩ := h'
 exact chn_same c c' l1 l2 (g2.trans f1) (g1.trans f2)
theorem Sm.of {R C R' C' : Nat} {M M' : Mx} {L : List Int} (h : Sm R C M L) (hf : Fct R' C' M' R C M) (hg : Fct R C M R' C' M') : Sm R' C' M' L := by
 obtain ⟨c, R1, C1, l1, f1, g1⟩ := h
 exact ⟨c, R1, C1, l1, hf.trans f1, g1.trans hg⟩
theorem Sm.ext {R C : Nat} {M : Mx} {L : List Int} (h : Sm R C M L) : Sm (R + 1) (C + 1) (ext R C M) (1 :: L) := by
 obtain ⟨c, R1, C1, l1, f1, g1⟩ := h
 exact ⟨chn_cons c, R1 + 1, C1 + 1, by simp; omega, f1.ext.trans (ext_dg L).1, (ext_dg L).2.trans g1.ext⟩
def Rk (R C : Nat) (M : Mx) (r : Nat) : Prop := ∃ (C' : Nat) (b : Mx), Ind r C' b ∧ Fct r C' b R C M ∧ Fct R C M r C' b
theorem ind_fle {N C N' C' : Nat} {b b' : Mx} (h : Ind N C b) (hf : Fct N C b N' C' b') : N ≤ N' := by
 obtain ⟨A, B, hf⟩ := hf
 exact ind_le h ⟨A, fun i j hi hj => by rw [hf i j hi hj, mm_assoc]⟩
theorem Rk.uniq {R C : Nat} {M : Mx} {r r' : Nat} (h : Rk R C M r) (h' : Rk R C M r') : r = r' := by
 obtain ⟨C1, b1, i1, f1, g1⟩ := h
 obtain ⟨C2, b2, i2, f2, g2⟩ := h'
 have := ind_fle i1 (f1.trans g2)
 have := ind_fle i2 (f2.trans g1)
 omega
theorem Rk.of {R C R' C' : Nat} {M M' : Mx} {r : Nat} (h : Rk R C M r) (hf : Fct R' C' M' R C M) (hg : Fct R C M R' C' M') : Rk R' C' M' r := by
 obtain ⟨C1, b1, i1, f1, g1⟩ := h
 exact ⟨C1, b1, i1, f1.trans hg, hf.trans g1⟩
theorem Rk.ext {R C : Nat} {M : Mx} {r : Nat} (h : Rk R C M r) : Rk (R + 1) (C + 1) (ext R C M) (r + 1) := by
 obtain ⟨C1, b1, i1, f1, g1⟩ := h
 refine ⟨C1 + 1, Go.Proofs.Ytjepiemflpjjhaa.ext r C1 b1, fun a ha => ?_, f1.ext, g1.ext⟩
 have h1 : ∀ i, i < r → a i = 0 := i1 a fun j hj => by
  have := ha j (by omega)
  show sm r _ = 0
  have e : sm (r + 1) (fun i => a i * Go.Proofs.Ytjepiemflpjjhaa.ext r C1 b1 i j) = sm r fun i => a i * b1 i j := by
   show sm r (fun i => a i * Go.Proofs.Ytjepiemflpjjhaa.ext r C1 b1 i j) + a r * Go.Proofs.Ytjepiemflpjjhaa.ext r C1 b1 r j = _
   rw [ext_row (by omega), Int.mul_zero, Int.add_zero]
   exact sm_congr fun i hi => by rw [ext_in hi hj]
  rw [e] at this; exact this
 intro i hi
 by_cases e : i = r
 ·subst e
  have := ha C1 (by omega)
  have e2 : sm (i + 1) (fun q => a q * Go.Proofs.Ytjepiemflpjjhaa.ext i C1 b1 q C1) = a i := by
   show sm i (fun q => a q * Go.Proofs.Ytjepiemflpjjhaa.ext i C1 b1 q C1) + a i * Go.Proofs.Ytjepiemflpjjhaa.ext i C1 b1 i C1 = _
   rw [ext_one, Int.mul_one, sm_zero fun q hq => by rw [ext_col (by omega), Int.mul_zero], Int.zero_add]
  rw [e2] at this; exact this
 ·exact h1 i (by omega)
theorem Fct.row' {R R' C : Nat} {M M' E : Mx} (h : ∀ i j, i < R' → j < C → M' i j = mm R E M i j) : Fct R' C M' R C M := Rwf.fct ⟨E, h⟩
theorem Fct.col' {R C C' : Nat} {M M' F : Mx} (h : ∀ i j, i < R → j < C' → M' i j = mm C M F i j) : Fct R C' M' R C M :=
 ⟨oneM, F, fun i j hi hj => by rw [h i j hi hj]; exact mm_congr1 fun k _ => (oneM_mm hi).symm⟩
theorem piv_ext {R C r c : Nat} {M M' : Mx} {u : Int} (hr : r < R + 1) (hc : c < C + 1) (hu : u * u = 1) (h1 : M r c = u) (h2 : ∀ i, i < R + 1 → i ≠ r → M i c = 0) (h3 : ∀ i j, i < R → j < C → M' i j = M (skip r i) (skip c j)) :
  Fct (R + 1) (C + 1) M (R + 1) (C + 1) (ext R C M') ∧ Fct (R + 1) (C + 1) (ext R C M') (R + 1) (C + 1) M := by
 constructor
 ·refine ⟨fun i a => if i = r then oneM R a else oneM (back r i) a, fun b j => if b = C then M r j else if j = c then 0 else oneM b (back c j), fun i j hi hj => ?_⟩
  by_cases e : i = r
  ·subst e
   have e1 : ∀ b, mm (R + 1) (fun i_1 a => if i_1 = i then oneM R a else oneM (back i i_1) a) (ext R C M') i b = ext R C M' R b := fun b => by
    have := oneM_mm (n := R + 1) (A := ext R C M') (i := R) (j := b) (by omega)
    rw [← this]
    exact sm_congr fun a _ => by simp only [if_true]
   show _ = sm (C + 1) _
   rw [sm_one (c := C) (by omega) fun b hb hne => by rw [e1, ext_row hne, Int.zero_mul], e1, ext_one, Int.one_mul]
   exact (if_pos rfl).symm
  ·have hb := back_lt hi e hr
   have e1 : ∀ b, mm (R + 1) (fun i_1 a => if i_1 = r then oneM R a else oneM (back r i_1) a) (ext R C M') i b = ext R C M' (back r i) b := fun b => by
    have := oneM_mm (n := R + 1) (A := ext R C M') (i := back r i) (j := b) (by omega)
    rw [← this]
    exact sm_congr fun a _ => by simp only [if_neg e]
   show _ = sm C _ + _
   dsimp only
   rw [e1 C, ext_col (by omega), Int.zero_mul, Int.add_zero]
   by_cases ej : j = c
   ·rw [sm_zero fun b hb' => by rw [if_neg (by omega), if_pos ej, Int.mul_zero], ej]
    exact h2 i hi e
   ·have hj2 := back_lt hj ej hc
    rw [sm_one hj2 fun b hb' hne => by rw [if_neg (by omega), if_neg ej]; unfold oneM; rw [if_neg hne, Int.mul_zero], e1, ext_in hb hj2, if_neg (by omega), if_neg ej, h3 _ _ hb hj2, skip_back e, skip_back ej]
    unfold oneM; rw [if_pos rfl, Int.mul_one]
 ·refine ⟨fun i a => if i = R then oneM r a else oneM (skip r i) a, fun b j => if j = C then u * oneM b c else oneM b (skip c j) - u * M r (skip c j) * oneM b c, fun i j hi hj => ?_⟩
  obtain ⟨q, hq, hqe⟩ : ∃ q, q < R + 1 ∧ q = if i = R then r else skip r i := ⟨_, by split; exact hr; exact skip_lt (by omega), rfl⟩
  have e1 : ∀ b, mm (R + 1) (fun i_1 a => if i_1 = R then oneM r a else oneM (skip r i_1) a) M i b = M q b := fun b => by
   have := oneM_mm (n := R + 1) (A := M) (i := q) (j := b) hq
   rw [← this, hqe]
   exact sm_congr fun a _ => by simp only; split <;> rfl
  have e2 : ∀ c', c' < C + 1 → sm (C + 1) (fun b => M q b * oneM b c') = M q c' := fun c' hc' => mm_oneM (n := C + 1) (A := M) (i := q) (j := c') hc'
  show _ = sm (C + 1) _
  by_cases ej : j = C
  ·rw [sm_congr (g := fun b => u * (M q b * oneM b c)) fun b _ => by dsimp only; rw [e1, if_pos ej, Int.mul_left_comm], sm_mul, e2 c hc]
   by_cases ei : i = R
   ·rw [if_pos ei] at hqe
    rw [hqe, h1, hu, ei, ej, ext_one]
   ·rw [if_neg ei] at hqe
    rw [ej, ext_col ei, h2 q hq (by rw [hqe]; exact skip_ne _ _), Int.mul_zero]
  ·have hsk : skip c j < C + 1 := skip_lt (by omega)
   rw [sm_congr (g := fun b => M q b * oneM b (skip c j) + -(u * M r (skip c j) * (M q b * oneM b c))) fun b _ => by
    dsimp only
    rw [e1, if_neg ej, Int.mul_sub, Int.sub_eq_add_neg, Int.mul_left_comm (M q b)], sm_add, sm_neg, sm_mul, e2 _ hsk, e2 c hc]
   by_cases ei : i = R
   ·rw [if_pos ei] at hqe
    rw [hqe, h1, ei, ext_row ej]
    have : u * M r (skip c j) * u = M r (skip c j) := by
     rw [Int.mul_comm u, Int.mul_assoc, hu, Int.mul_one]
    rw [this]; omega
   ·rw [if_neg ei] at hqe
    rw [ext_in (by omega) (by omega), h3 i j (by omega) (by omega), h2 q hq (by rw [hqe]; exact skip_ne _ _), Int.mul_zero, hqe]; omega
theorem col_zero {R C c : Nat} {M M' : Mx} (hc : c < C + 1) (h2 : ∀ i, i < R → M i c = 0) (h3 : ∀ i j, i < R → j < C → M' i j = M i (skip c j)) : Fct R (C + 1) M R C M' ∧ Fct R C M' R (C + 1) M := by
 constructor
 ·refine Fct.col' (F := fun b j => if j = c then 0 else oneM b (back c j)) fun i j hi hj => ?_
  by_cases e : j = c
  ·rw [e, h2 i hi]
   exact (sm_zero fun b _ => by dsimp only; rw [if_pos rfl, Int.mul_zero]).symm
  ·have hb := back_lt hj e hc
   have : mm C M' (fun b j => if j = c then 0 else oneM b (back c j)) i j = mm C M' oneM i (back c j) := sm_congr fun b _ => by dsimp only; rw [if_neg e]
   rw [this, mm_oneM hb, h3 i _ hi hb, skip_back e]
 ·exact Fct.re id (skip c) (fun i hi => hi) (fun j hj => skip_lt hj) fun i j hi hj => h3 i j hi hj
theorem row_made {R C r : Nat} {M M' : Mx} {a : Nat → Int} (hr : r < R + 1) (h1 : ∀ j, j < C → M r j = sm R fun i => a i * M (skip r i) j) (h3 : ∀ i j, i < R → j < C → M' i j = M (skip r i) j) : Fct (R + 1) C M R C M' ∧ Fct R C M' (R + 1) C M := by
 constructor
 ·refine Fct.row' (E := fun i b => if i = r then a b else oneM (back r i) b) fun i j hi hj => ?_
  by_cases e : i = r
  ·rw [e, h1 j hj]
   exact sm_congr fun b hb => by dsimp only; rw [if_pos rfl, h3 b j hb hj]
  ·have hb := back_lt hi e hr
   have : mm R (fun i b => if i = r then a b else oneM (back r i) b) M' i j = mm R oneM M' (back r i) j := sm_congr fun b _ => by dsimp only; rw [if_neg e]
   rw [this, oneM_mm hb, h3 _ j hb hj, skip_back e]
 ·exact Fct.re (skip r) id (fun i hi => skip_lt hi) (fun j hj => hj) fun i j hi hj => h3 i j hi hj
--END
end Go.Proofs.Ytjepiemflpjjhaa

namespace Go.Proofs.Ytjepiemflpjjhaa
open Go.RowKit
--BODY
theorem sm_first (f : Nat → Int) (n : Nat) : sm (n + 1) f = f 0 + sm n fun i => f (i + 1) := by
 rw [Nat.add_comm n 1, sm_split f 1 n]
 show (0 + f 0) + sm n (fun i => f (1 + i)) = _
 rw [Int.zero_add]
 congr 1
 exact sm_congr fun i _ => by rw [Nat.add_comm]
theorem zeroL_at {x : List Int} (h : zeroL x = true) (k : Nat) : vecF x k = 0 := by
 unfold vecF
 rw [List.getD_eq_getElem?_getD]
 cases e : x[k]? with
 | none => rfl
 | some y =>
  unfold zeroL at h
  have := List.all_eq_true.1 h y (List.mem_of_getElem? e)
  simpa using this
theorem coN_span {b : List Int} {C : Nat} : ∀ {n i : Nat} {x out y : List Int}, x.length = C → coN b C n i x out = some y → ∃ qs : List Int, y = out ++ qs ∧ qs.length = n ∧ ∀ k, k < C → vecF x k = sm n fun t => vecF qs t * cell b C (i + t) k
 | 0, i, x, out, y, hl, h => by
  simp only [coN] at h
  split at h
  ·rename_i hz
   obtain rfl := Option.some.inj h
   exact ⟨[], by simp, rfl, fun k _ => zeroL_at hz k⟩
  ·cases h
 | n + 1, i, x, out, y, hl, h => by
  by_cases h0 : coM b C i x = 0
  ·cases hk : nrmOk b C i x (coQ b C i x) with
   | false => rw [coN_no h0 hk] at h; cases h
   | true =>
    rw [coN_yes h0 hk] at h
    obtain ⟨qs, e1, e2, e3⟩ := coN_span (by rw [updR_len]; exact hl) h
    refine ⟨coQ b C i x :: qs, by rw [e1]; simp, by simp [e2], fun k hk' => ?_⟩
    have e4 := e3 k hk'
    have e5 : vecF (updR (nrmV b C i x (coQ b C i x)) 0 C x) k = vecF x k - cell b C i k * coQ b C i x := by
     unfold vecF
     rw [updR_getD (by omega), if_pos (by omega), Nat.sub_zero]; rfl
    rw [sm_first]
    have e6 : sm n (fun t => vecF (coQ b C i x :: qs) (t + 1) * cell b C (i + (t + 1)) k) = sm n fun t => vecF qs t * cell b C (i + 1 + t) k :=
     sm_congr fun t _ => by
      rw [show i + (t + 1) = i + 1 + t by omega]; rfl
    rw [e6, ← e4, e5]
    show vecF x k = coQ b C i x * cell b C (i + 0) k + _
    rw [Nat.add_zero, Int.mul_comm (coQ b C i x)]; omega
  ·rw [coN_mod h0] at h; cases h
theorem coL_span {l : Mat} {C N : Nat} (hL : Lat l C N) {v : List Int} (hv : v.length = C) (h : coOk l v = true) : (coL l v).length = N ∧ ∀ k, k < C → vecF v k = sm N fun t => vecF (coL l v) t * cell l.cells C t k := by
 obtain ⟨x, hx⟩ := Option.isSome_iff_exists.1 (show (coR l v).isSome = true from h)
 rw [(co_some hx).2]
 cases hin : coIn l v with
 | false => rw [coR_no hin] at hx; cases hx
 | true =>
  rw [coR_yes hL hin] at hx
  obtain ⟨qs, e1, e2, e3⟩ := coN_span hv hx
  rw [List.nil_append] at e1
  subst e1
  exact ⟨e2, fun k hk => by rw [e3 k hk]; exact sm_congr fun t _ => by rw [Nat.zero_add]⟩
theorem cmC_cell {l s : Mat} {C N C' N' : Nat} (hL : Lat l C N) (hS : Lat s C' N') : ∀ {n : Nat}, (∀ i, i < n → coOk l (rowL s.cells C' i) = true) → ∀ i j, i < n → j < N → cell (cmC l s n) N i j = vecF (coL l (rowL s.cells C' i)) j
 | 0, _, i, j, hi, _ => by omega
 | n + 1, h, i, j, hi, hj => by
  have hlen := (cmC_spec (n := n) hL hS fun i hi => h i (by omega)).2
  rw [cmC_succ hS]
  by_cases e : i = n
  ·subst e
   have := cell_app2 (a := cmC l s i) (b := coL l (rowL s.cells C' i)) (C := N) (R := i) (i := 0) (k := j) hlen
   rw [Nat.add_zero] at this
   rw [this]
   unfold cell vecF
   rw [Nat.zero_mul, Nat.zero_add]
  ·rw [cell_app1 (R := n) hlen (by omega) hj]
   exact cmC_cell hL hS (fun i hi => h i (by omega)) i j (by omega) hj
theorem cm_parts {l s : Mat} (h : cmOk l s = true) : ∃ C N N', Lat l C N ∧ Lat s C N' ∧ (cmB l s).rows = ((N' : Nat) : Int) ∧ (cmB l s).cols = ((N : Nat) : Int) ∧ ∀ i k, i < N' → k < C → cell s.cells C i k = mm N (cell (cmB l s).cells N) (cell l.cells C) i k := by
 have h0 := h
 unfold cmOk at h
 rw [Bool.and_eq_true] at h
 obtain ⟨h1, h2⟩ := h
 have h1' := h1
 unfold cmIs at h1'
 rw [Bool.and_eq_true, Bool.and_eq_true, decide_eq_true_eq] at h1'
 obtain ⟨C, N, hL⟩ := lat_of h1'.1
 obtain ⟨C', N', hS⟩ := lat_of h1'.2.1
 obtain rfl : C' = C := by have := hL.cols; have := hS.cols; omega
 have ha : ∀ i, i < N' → coOk l (rowL s.cells C' i) = true := fun i hi => by
  unfold cmAll at h2
  rw [hS.rows, hS.cols] at h2
  have := all_at h2 (show i < ((N' : Nat) : Int).toNat by simpa using hi)
  simpa using this
 have hy := (cm_yes hS h1 ha).2
 refine ⟨C', N, N', hL, hS, by rw [hy], by rw [hy]; exact hL.rows, fun i k hi hk => ?_⟩
 rw [hy]
 have hrl := rowL_len hS.len hi
 have h3 := (coL_span hL hrl (ha i hi)).2 k hk
 rw [row_vec hS.len hi k hk] at h3
 rw [h3]
 exact sm_congr fun t ht => by rw [cmC_cell hL hS ha i t hi ht]
noncomputable def quF (m0 m1 : Mat) : List Int := facB (cmB (kerB m0) (basB m1))
theorem qu_parts {m0 m1 : Mat} (hk : kerOk m0 = true) (hb : basOk m1 = true) (hq : quOk (kerB m0) (basB m1) = true) :
  ∃ (C0 t NK R1 C1 Rx Cx : Nat) (bb : List Int), Bas m0 C0 t bb ∧ basOk m0 = true ∧ m0.rows = ((NK + t : Nat) : Int) ∧ C1 = NK + t ∧ quN (kerB m0) (basB m1) = (NK : Int) - (quF m0 m1).length ∧ quB (kerB m0) (basB m1) = gt1 (quF m0 m1) ∧
   m1.rows = (R1 : Int) ∧ m1.cols = (C1 : Int) ∧ m1.cells.length = R1 * C1 ∧ Fac (cmB (kerB m0) (basB m1)) Rx Cx (quF m0 m1) ∧ Fct Rx Cx (cell (cmB (kerB m0) (basB m1)).cells Cx) R1 C1 (cell m1.cells C1) ∧ Fct R1 C1 (cell m1.cells C1) Rx Cx (cell (cmB (kerB m0) (basB m1)).cells Cx) := by
 obtain ⟨R, N, b, hK⟩ := kern_of hk
 obtain ⟨C0, t, bb, hbb, hbo, hNt⟩ := kern_count hK hk
 obtain ⟨C1, N1, b1, hb1⟩ := bas_of hb
 obtain ⟨R1, hr1, hl1, hf, hg⟩ := bas_rows hb1 hb
 obtain ⟨q1, q2, q3⟩ := qu_yes hq
 have hq' := hq
 unfold quOk at hq'
 rw [Bool.and_eq_true] at hq'
 obtain ⟨hcm, hfo⟩ := hq'
 obtain ⟨C, NK, NB, hL, hS, c1, c2, c3⟩ := cm_parts hcm
 obtain ⟨Rx, Cx, hF⟩ := fac_of hfo
 have e1 := hL.rows; have e2 := hL.cols; have e3 := hS.rows; have e4 := hS.cols
 rw [hK.eq] at e1 e2
 rw [hb1.eq] at e3 e4
 simp only at e1 e2 e3 e4
 obtain rfl : NK = N := by omega
 obtain rfl : C = R := by omega
 obtain rfl : NB = N1 := by omega
 obtain rfl : C1 = C := by omega
 obtain rfl : Rx = NB := by have := hF.rows; omega
 obtain rfl : Cx = NK := by have := hF.cols; omega
 obtain ⟨-, -, -, -, -, ⟨W, hW⟩, -⟩ := kern_fact hK hk
 have ek : (kerB m0).cells = b := by rw [hK.eq]
 have eb : (basB m1).cells = b1 := by rw [hb1.eq]
 rw [ek, eb] at c3
 refine ⟨C0, t, Cx, R1, C1, Rx, Cx, bb, hbb, hbo, by rw [hK.rows]; omega, by omega, ?_, q3, hr1, hb1.cols, hl1, hF, ?_, ?_⟩
 ·have e5 : (kerB m0).rows = (Cx : Int) := by rw [hK.eq]
  rw [q2, e5]; rfl
 ·-- the coordinates are B W
  obtain ⟨A, hA⟩ := hf
  refine ⟨A, W, fun i j hi hj => ?_⟩
  have e5 : mm C1 (mm Cx (cell (cmB (kerB m0) (basB m1)).cells Cx) (cell b C1)) W i j = cell (cmB (kerB m0) (basB m1)).cells Cx i j := by
   rw [mm_assoc, mm_congr2 (B' := oneM) fun k hk' => hW k j hk' hj, mm_oneM hj]
  rw [← e5]
  refine mm_congr1 fun k hk' => ?_
  rw [← c3 i k hi hk', hA i k hi hk']
 ·obtain ⟨Y, hY⟩ := hg
  refine ⟨Y, cell b C1, fun i j hi hj => ?_⟩
  rw [hY i j hi hj, mm_congr2 (B' := mm Cx (cell (cmB (kerB m0) (basB m1)).cells Cx) (cell b C1)) fun k hk' => c3 k j hk' hj, ← mm_assoc]
theorem hom_parts {l : List (List Int)} {k : Int} (h : mqOk (homIs l k) (cycB l k) (bndB l k) = true) :
  0 ≤ k ∧ k ≤ 3 ∧ boundOk l k = true ∧ boundOk l (k + 1) = true ∧ kerOk (boundB l k) = true ∧ basOk (boundB l (k + 1)) = true ∧ quOk (kerB (boundB l k)) (basB (boundB l (k + 1))) = true ∧
   mqN (homIs l k) (cycB l k) (bndB l k) = quN (kerB (boundB l k)) (basB (boundB l (k + 1))) ∧ mqB (homIs l k) (cycB l k) (bndB l k) = quB (kerB (boundB l k)) (basB (boundB l (k + 1))) := by
 unfold mqOk at h
 rw [Bool.and_eq_true] at h
 obtain ⟨h1, h2⟩ := h
 have h1' := h1
 unfold homIs cycOk bndOk bndIs at h1'
 simp only [Bool.and_eq_true] at h1'
 obtain ⟨⟨a1, a2⟩, ⟨a3, a4⟩, a5⟩ := h1'
 have hin := inB_iff.1 a4
 have hw : wrap64 (k + 1) = k + 1 := by unfold wrap64; omega
 rw [hw] at a3 a5
 have ec : cycB l k = kerB (boundB l k) := by unfold cycB; rw [if_pos a1]
 have eb : bndB l k = basB (boundB l (k + 1)) := by
  unfold bndB bndIs
  rw [hw, a3, a4]; rfl
 rw [ec, eb] at h2 ⊢
 obtain ⟨-, m2, m3⟩ := mq_yes (a := kerB (boundB l k)) (b := basB (boundB l (k + 1))) h1
 exact ⟨by omega, by omega, a1, a3, a2, a5, h2, m2, m3⟩
noncomputable def homY (l : List (List Int)) (k : Int) : Bool := mqOk (homIs l k) (cycB l k) (bndB l k)
noncomputable def homN (l : List (List Int)) (k : Int) : Int := mqN (homIs l k) (cycB l k) (bndB l k)
noncomputable def homL (l : List (List Int)) (k : Int) : List Int := mqB (homIs l k) (cycB l k) (bndB l k)
end Go.Proofs.Ytjepiemflpjjhaa

namespace Go.Proofs.Ytjepiemflpjjhaa
open Go.RowKit
--BODY
def Bm (F G : List (List Int)) : Mx := fun i j => incB (F.getD i []) (G.getD j [])
theorem bound_cell {l : List (List Int)} (h : IsCplx l) {k : Int} (hk : 0 < k) {i j : Nat} (hi : i < (facesB l k).length) (hj : j < (facesB l (k - 1)).length) : cell (boundM l k).cells (facesB l (k - 1)).length i j = Bm (facesB l k) (facesB l (k - 1)) i j := bound_at h hk hi hj
theorem face_of {s t : List Int} (h : isFaceB s t = true) : ∃ x, x < t.length ∧ del t x = s := by
 unfold isFaceB at h
 rw [List.any_eq_true] at h
 obtain ⟨x, hx, he⟩ := h
 unfold sameI at he
 rw [decide_eq_true_eq] at he
 exact ⟨x, by simpa using hx, he.symm⟩
theorem face_in {s t : List Int} {x : Nat} (hx : x < t.length) (h : del t x = s) : isFaceB s t = true :=
 isFaceB_yes hx (by unfold sameI; rw [decide_eq_true_eq]; exact h.symm)
structure FreeP (l : List (List Int)) (s t : List Int) : Prop where
 hs : s ∈ l
 ht : t ∈ l
 fc : ∃ x, x < t.length ∧ del t x = s
 only : ∀ u, u ∈ l → (∃ x, x < u.length ∧ del u x = s) → u = t
theorem over_zero {l : List (List Int)} {s : List Int} : ∀ {k : Nat}, (over l s k).1 = 0 → ∀ j, j < k → isFaceB s (l.getD j []) = false
 | 0, _, j, hj => by omega
 | k + 1, h, j, hj => by
  have hr := over_rng l s k
  unfold over at h
  split at h
  ·simp only at h; omega
  ·rename_i hn
   by_cases e : j = k
   ·subst e; simpa using hn
   ·exact over_zero h j (by omega)
theorem over_one {l : List (List Int)} {s : List Int} : ∀ {k : Nat}, (over l s k).1 = 1 → ∃ j : Nat, (over l s k).2 = (j : Int) ∧ j < k ∧ isFaceB s (l.getD j []) = true ∧ ∀ i, i < k → isFaceB s (l.getD i []) = true → i = j
 | 0, h => by simp [over] at h
 | k + 1, h => by
  unfold over at h ⊢
  by_cases hf : isFaceB s (l.getD k []) = true
  ·rw [if_pos hf] at h ⊢
   simp only at h ⊢
   have hz := over_zero (l := l) (s := s) (k := k) (by omega)
   refine ⟨k, rfl, by omega, hf, fun i hi hi2 => ?_⟩
   by_cases e : i = k
   ·exact e
   ·rw [hz i (by omega)] at hi2; cases hi2
  ·rw [if_neg hf] at h ⊢
   obtain ⟨j, h1, h2, h3, h4⟩ := over_one h
   refine ⟨j, h1, by omega, h3, fun i hi hi2 => ?_⟩
   by_cases e : i = k
   ·subst e; exact (hf hi2).elim
   ·exact h4 i (by omega) hi2
theorem freeFrom_at {l : List (List Int)} : ∀ {f i : Nat}, ¬ (freeFrom l i f).1 < 0 → ∃ p : Nat, (freeFrom l i f).1 = (p : Int) ∧ p < i + f ∧ (over l (l.getD p []) l.length).1 = 1 ∧ (freeFrom l i f).2 = (over l (l.getD p []) l.length).2
 | 0, i, h => by simp [freeFrom] at h
 | f + 1, i, h => by
  unfold freeFrom at h ⊢
  by_cases e : (over l (l.getD i []) l.length).1 = 1
  ·rw [if_pos e] at h ⊢
   exact ⟨i, rfl, by omega, e, rfl⟩
  ·rw [if_neg e] at h ⊢
   obtain ⟨p, h1, h2, h3⟩ := freeFrom_at h
   exact ⟨p, h1, by omega, h3⟩
def cut2 (l : List (List Int)) (s t : List Int) : List (List Int) := l.filter fun u => decide (u ≠ s) && decide (u ≠ t)
theorem dropIJ_eq {l0 : List (List Int)} (hn : l0.Nodup) {i j : Nat} (hi : i < l0.length) (hj : j < l0.length) : ∀ (k : Nat) (l : List (List Int)), (∀ q, q < l.length → l[q]? = l0[k + q]?) → k + l.length = l0.length → dropIJ (i : Int) (j : Int) k l = cut2 l (l0.getD i []) (l0.getD j [])
 | k, [], _, _ => rfl
 | k, x :: r, h, hl => by
  simp only [List.length_cons] at hl
  have hx : l0[k]? = some x := by have := h 0 (by simp); rw [Nat.add_zero] at this; rw [← this]; rfl
  have ih := dropIJ_eq hn hi hj (k + 1) r (fun q hq => by
   have := h (q + 1) (by simp; omega)
   rw [show k + 1 + q = k + (q + 1) by omega, ← this]; rfl) (by omega)
  have hne : ∀ {p : Nat}, p < l0.length → (x ≠ l0.getD p [] ↔ (k : Int) ≠ (p : Int)) := fun {p} hp => by
   have hk : k < l0.length := by omega
   have hxk : l0[k] = x := by rw [List.getElem?_eq_getElem hk] at hx; exact Option.some.inj hx
   rw [List.getD_eq_getElem?_getD, List.getElem?_eq_getElem hp, Option.getD_some, ← hxk]
   constructor
   ·intro h1 e; exact h1 (by congr 1; omega)
   ·intro h1 e; exact h1 (by have := (List.getElem_inj hn).1 e; omega)
  simp only [dropIJ]
  unfold cut2
  rw [List.filter_cons]
  by_cases e : (k : Int) ≠ (i : Int) ∧ (k : Int) ≠ (j : Int)
  ·rw [if_pos e, if_pos (by simp only [Bool.and_eq_true, decide_eq_true_eq]; exact ⟨(hne hi).2 e.1, (hne hj).2 e.2⟩), ih]; rfl
  ·rw [if_neg e, if_neg (by simp only [Bool.and_eq_true, decide_eq_true_eq]; exact fun h2 => e ⟨(hne hi).1 h2.1, (hne hj).1 h2.2⟩), ih]; rfl
theorem cplx_nd {l : List (List Int)} (h : IsCplx l) : l.Nodup := h.1.2.imp fun {a b} hab e => by subst e; rw [beforeB_irr] at hab; cases hab
theorem free_step {l : List (List Int)} (h : IsCplx l) (hf : ¬ (freeB l).1 < 0) : ∃ s t, FreeP l s t ∧ dropIJ (freeB l).1 (freeB l).2 0 l = cut2 l s t := by
 unfold freeB at hf ⊢
 obtain ⟨p, h1, h2, h3, h4⟩ := freeFrom_at hf
 obtain ⟨j, h5, h6, h7, h8⟩ := over_one h3
 rw [h1, h4, h5]
 have hp : p < l.length := by omega
 have mem : ∀ {q : Nat}, q < l.length → l.getD q [] ∈ l := fun {q} hq => by
  rw [List.getD_eq_getElem?_getD, List.getElem?_eq_getElem hq]; exact List.getElem_mem _
 refine ⟨l.getD p [], l.getD j [], ⟨mem hp, mem h6, face_of h7, fun u hu ⟨x, hx, hd⟩ => ?_⟩, dropIJ_eq (cplx_nd h) hp h6 0 l (fun q _ => by rw [Nat.zero_add]) (by omega)⟩
 obtain ⟨q, hq, rfl⟩ := List.getElem_of_mem hu
 have e : l.getD q [] = l[q] := by rw [List.getD_eq_getElem?_getD, List.getElem?_eq_getElem hq]; rfl
 rw [← e]
 rw [h8 q hq (by rw [e]; exact face_in hx hd)]
theorem simp_parts {l : List (List Int)} (h : IsCplx l) {u : List Int} (hu : u ∈ l) : u.Pairwise (· < ·) ∧ 1 ≤ u.length ∧ u.length ≤ 4 := by
 have := h.1.1 u hu
 unfold isSimpB at this
 rw [decide_eq_true_eq] at this
 exact ⟨this.1.2, this.2⟩
theorem del_len1 {u : List Int} {x : Nat} (hx : x < u.length) : (del u x).length + 1 = u.length := by
 have := del_len hx
 omega
theorem FreeP.len {l : List (List Int)} {s t : List Int} (h : FreeP l s t) : t.length = s.length + 1 := by
 obtain ⟨x, hx, rfl⟩ := h.fc
 exact (del_len1 hx).symm
theorem FreeP.top {l : List (List Int)} {s t : List Int} (hC : IsCplx l) (h : FreeP l s t) {u : List Int} (hu : u ∈ l) {y : Nat} (hy : y < u.length) : del u y ≠ t := fun e => by
 obtain ⟨x, hx, hd⟩ := h.fc
 have hut : u.length = t.length + 1 := by rw [← e]; exact (del_len1 hy).symm
 have h1 : 1 < u.length := by omega
 obtain ⟨hp, -, -⟩ := simp_parts hC hu
 by_cases hxy : x < y
 ·obtain ⟨y', rfl⟩ : ∃ q, y = q + 1 := ⟨y - 1, by omega⟩
  have e1 : del (del u x) y' = s := by
   rw [← del_del (by omega) hy, e]; exact hd
  have e2 := h.only _ (hC.2.1 u hu h1 x (by omega)) ⟨y', by have := del_len1 (u := u) (x := x) (by omega); omega, e1⟩
  exact asc_del_ne hp hxy hy (e2.trans e.symm)
 ·have e1 : del (del u (x + 1)) y = s := by
   rw [del_del (by omega) (by omega), e]; exact hd
  have e2 := h.only _ (hC.2.1 u hu h1 (x + 1) (by omega)) ⟨y, by have := del_len1 (u := u) (x := x + 1) (by omega); omega, e1⟩
  exact asc_del_ne hp (show y < x + 1 by omega) (by omega) (e.trans e2.symm)
theorem mem_cut2 {l : List (List Int)} {s t u : List Int} : u ∈ cut2 l s t ↔ u ∈ l ∧ u ≠ s ∧ u ≠ t := by
 unfold cut2; rw [List.mem_filter]; simp
theorem cut2_cplx {l : List (List Int)} {s t : List Int} (hC : IsCplx l) (h : FreeP l s t) : IsCplx (cut2 l s t) := by
 refine ⟨⟨fun u hu => hC.1.1 u (mem_cut2.1 hu).1, hC.1.2.sublist List.filter_sublist⟩, fun u hu h1 k hk => ?_, fun k hk => ?_⟩
 ·obtain ⟨a1, a2, a3⟩ := mem_cut2.1 hu
  exact mem_cut2.2 ⟨hC.2.1 u a1 h1 k hk, fun e => a3 (h.only u a1 ⟨k, hk, e⟩), h.top hC a1 hk⟩
 ·have : (facesB (cut2 l s t) k).length ≤ (facesB l k).length := by
   unfold facesB cut2
   exact (List.filter_sublist.filter _).length_le
  have := hC.2.2 k hk
  omega
theorem cut2_eul {l : List (List Int)} {s t : List Int} (hC : IsCplx l) (h : FreeP l s t) : eulS l = eulS (cut2 l s t) := by
 have hne : s ≠ t := fun e => by have := h.len; rw [e] at this; omega
 have h1 := split_sum (F := [s, t]) (cplx_nd hC) (by simp [hne]) (fun x hx => by simp at hx; rcases hx with rfl | rfl; exact h.hs; exact h.ht) signOf
 have h2 : l.filter (fun u => !decide (u ∈ [s, t])) = cut2 l s t := by
  unfold cut2
  refine List.filter_congr fun u _ => ?_
  rw [Bool.eq_iff_iff]
  simp
 rw [h2] at h1
 unfold eulS
 rw [h1]
 have h3 : ([s, t].map signOf).sum = 0 := by
  simp only [List.map_cons, List.map_nil, List.sum_cons, List.sum_nil]
  have := h.len
  unfold signOf
  split <;> split <;> omega
 rw [h3]; omega
theorem filt_at {q : List Int → Bool} : ∀ {F : List (List Int)} {r : Nat}, F.Nodup → r < F.length → (∀ u ∈ F, q u = decide (u ≠ F.getD r [])) → F.filter q = F.eraseIdx r
 | [], r, _, hr, _ => by simp at hr
 | x :: F, 0, hn, _, h => by
  rw [List.filter_cons, if_neg (by rw [h x (by simp)]; simp)]
  exact List.filter_eq_self.2 fun u hu => by
   rw [h u (by simp [hu])]
   have := (List.nodup_cons.1 hn).1
   simp only [decide_eq_true_eq]
   exact fun e => this (by rw [show x = u from (e.trans rfl).symm ▸ rfl]; exact hu)
 | x :: F, r + 1, hn, hr, h => by
  obtain ⟨h1, h2⟩ := List.nodup_cons.1 hn
  have hr' : r < F.length := by simpa using hr
  have e : (x :: F).getD (r + 1) [] = F.getD r [] := rfl
  rw [e] at h
  rw [List.filter_cons, if_pos (by
   rw [h x (by simp)]
   simp only [decide_eq_true_eq]
   exact fun e2 => h1 (by rw [e2, List.getD_eq_getElem?_getD, List.getElem?_eq_getElem hr']; exact List.getElem_mem _)), filt_at h2 hr' fun u hu => h u (by simp [hu])]
  rfl
theorem erase_getD {F : List (List Int)} (r i : Nat) : (F.eraseIdx r).getD i [] = F.getD (skip r i) [] := by
 rw [List.getD_eq_getElem?_getD, List.getD_eq_getElem?_getD, List.getElem?_eraseIdx]
 unfold skip
 split <;> rfl
theorem erase_len {F : List (List Int)} {r : Nat} (h : r < F.length) : (F.eraseIdx r).length + 1 = F.length := by
 rw [List.length_eraseIdx, if_pos h]; omega
theorem idx_of {F : List (List Int)} {s : List Int} (h : s ∈ F) : ∃ r, r < F.length ∧ F.getD r [] = s := by
 obtain ⟨r, hr, rfl⟩ := List.getElem_of_mem h
 exact ⟨r, hr, by rw [List.getD_eq_getElem?_getD, List.getElem?_eq_getElem hr]; rfl⟩
theorem cut_faces (l : List (List Int)) (s t : List Int) (k : Int) : facesB (cut2 l s t) k = (facesB l k).filter fun u => decide (u ≠ s) && decide (u ≠ t) := by
 unfold facesB cut2
 rw [List.filter_filter, List.filter_filter]
 exact List.filter_congr fun u _ => Bool.and_comm _ _
theorem cut_none {l : List (List Int)} {s t : List Int} {k : Int} (h1 : (s.length : Int) - 1 ≠ k) (h2 : (t.length : Int) - 1 ≠ k) : facesB (cut2 l s t) k = facesB l k := by
 rw [cut_faces]
 refine List.filter_eq_self.2 fun u hu => ?_
 have := (mem_facesB.1 hu).2
 simp only [Bool.and_eq_true, decide_eq_true_eq]
 exact ⟨fun e => h1 (by rw [← e]; exact this), fun e => h2 (by rw [← e]; exact this)⟩
theorem cut_t {l : List (List Int)} {s t : List Int} (hC : IsCplx l) (h : FreeP l s t) {k : Int} (hk : (t.length : Int) - 1 = k) : ∃ r, r < (facesB l k).length ∧ (facesB l k).getD r [] = t ∧ facesB (cut2 l s t) k = (facesB l k).eraseIdx r := by
 obtain ⟨r, hr, e⟩ := idx_of (mem_facesB.2 ⟨h.ht, hk⟩)
 refine ⟨r, hr, e, ?_⟩
 rw [cut_faces]
 refine filt_at (faces_nodup hC k) hr fun u hu => ?_
 rw [e]
 have h1 := (mem_facesB.1 hu).2
 have h2 := h.len
 rw [show decide (u ≠ s) = true from decide_eq_true fun e => by rw [e] at h1; omega, Bool.true_and]
theorem cut_s {l : List (List Int)} {s t : List Int} (hC : IsCplx l) (h : FreeP l s t) {k : Int} (hk : (s.length : Int) - 1 = k) : ∃ r, r < (facesB l k).length ∧ (facesB l k).getD r [] = s ∧ facesB (cut2 l s t) k = (facesB l k).eraseIdx r := by
 obtain ⟨r, hr, e⟩ := idx_of (mem_facesB.2 ⟨h.hs, hk⟩)
 refine ⟨r, hr, e, ?_⟩
 rw [cut_faces]
 refine filt_at (faces_nodup hC k) hr fun u hu => ?_
 rw [e]
 have h1 := (mem_facesB.1 hu).2
 have h2 := h.len
 rw [show decide (u ≠ t) = true from decide_eq_true fun e => by rw [e] at h1; omega, Bool.and_true]
def MB (l : List (List Int)) (k : Int) : Mx := cell (boundM l k).cells (facesB l (k - 1)).length
def nF (l : List (List Int)) (k : Int) : Nat := (facesB l k).length
theorem mb_eq {l : List (List Int)} (h : IsCplx l) {k : Int} (hk : 0 < k) : Fct (nF l k) (nF l (k - 1)) (MB l k) (nF l k) (nF l (k - 1)) (Bm (facesB l k) (facesB l (k - 1))) ∧ Fct (nF l k) (nF l (k - 1)) (Bm (facesB l k) (facesB l (k - 1))) (nF l k) (nF l (k - 1)) (MB l k) :=
 ⟨Fct.of_eq fun _ _ hi hj => bound_cell h hk hi hj, Fct.of_eq fun _ _ hi hj => (bound_cell h hk hi hj).symm⟩
theorem fct_none (R R' : Nat) (M M' : Mx) : Fct R 0 M R' 0 M' := ⟨oneM, oneM, fun i j _ hj => by omega⟩
theorem inc_free {t s : List Int} (hp : t.Pairwise (· < ·)) {x : Nat} (hx : x < t.length) (h : del t x = s) : incB t s = sgn x := by
 unfold incB
 rw [sumN_one hx fun i hi hne => if_neg fun e => by
  rcases Nat.lt_trichotomy i x with h1 | h1 | h1
  ·exact asc_del_ne hp h1 hx (e.trans h.symm)
  ·exact hne h1
  ·exact asc_del_ne hp h1 hi (h.trans e.symm), if_pos h]
theorem inc_none {t s : List Int} (h : ∀ x, x < t.length → del t x ≠ s) : incB t s = 0 := by
 unfold incB
 exact sumN_zero fun i hi => if_neg (h i hi)
theorem sgn_sq (x : Nat) : sgn x * sgn x = 1 := by unfold sgn; split <;> rfl
theorem low_none {l : List (List Int)} (h : IsCplx l) {k : Int} (hk : k ≤ 0) : nF l (k - 1) = 0 := by
 unfold nF
 have : facesB l (k - 1) = [] := List.filter_eq_nil_iff.2 fun u hu e => by
  have := (simp_parts h hu).2.1
  simp only [beq_iff_eq] at e
  omega
 rw [this]; rfl
theorem cut_step {l : List (List Int)} {s t : List Int} (hC : IsCplx l) (h : FreeP l s t) {k : Int} (hk : 0 ≤ k) :
  (k ≠ (t.length : Int) - 1 → Fct (nF l k) (nF l (k - 1)) (MB l k) (nF (cut2 l s t) k) (nF (cut2 l s t) (k - 1)) (MB (cut2 l s t) k) ∧ Fct (nF (cut2 l s t) k) (nF (cut2 l s t) (k - 1)) (MB (cut2 l s t) k) (nF l k) (nF l (k - 1)) (MB l k)) ∧
  (k = (t.length : Int) - 1 → nF l k = nF (cut2 l s t) k + 1 ∧ nF l (k - 1) = nF (cut2 l s t) (k - 1) + 1 ∧
   Fct (nF l k) (nF l (k - 1)) (MB l k) (nF (cut2 l s t) k + 1) (nF (cut2 l s t) (k - 1) + 1) (ext (nF (cut2 l s t) k) (nF (cut2 l s t) (k - 1)) (MB (cut2 l s t) k)) ∧
   Fct (nF (cut2 l s t) k + 1) (nF (cut2 l s t) (k - 1) + 1) (ext (nF (cut2 l s t) k) (nF (cut2 l s t) (k - 1)) (MB (cut2 l s t) k)) (nF l k) (nF l (k - 1)) (MB l k)) := by
 have hC' := cut2_cplx hC h
 have hl := h.len
 obtain ⟨tp, t1, -⟩ := simp_parts hC h.ht
 have hs1 := (simp_parts hC h.hs).2.1
 by_cases hk0 : k = 0
 ·refine ⟨fun _ => ?_, fun e => by omega⟩
  rw [low_none hC (k := k) (by omega), low_none hC' (k := k) (by omega)]
  exact ⟨fct_none _ _ _ _, fct_none _ _ _ _⟩
 have hkp : 0 < k := by omega
 obtain ⟨m1, m2⟩ := mb_eq hC hkp
 obtain ⟨m3, m4⟩ := mb_eq hC' hkp
 refine ⟨fun hne => ?_, fun he => ?_⟩
 ·suffices H : Fct (nF l k) (nF l (k - 1)) (Bm (facesB l k) (facesB l (k - 1))) (nF (cut2 l s t) k) (nF (cut2 l s t) (k - 1)) (Bm (facesB (cut2 l s t) k) (facesB (cut2 l s t) (k - 1))) ∧ Fct (nF (cut2 l s t) k) (nF (cut2 l s t) (k - 1)) (Bm (facesB (cut2 l s t) k) (facesB (cut2 l s t) (k - 1))) (nF l k) (nF l (k - 1)) (Bm (facesB l k) (facesB l (k - 1))) from
   ⟨(m1.trans H.1).trans m4, (m3.trans H.2).trans m2⟩
  unfold nF
  by_cases e1 : k - 1 = (t.length : Int) - 1
  ·-- a column of zeros
   obtain ⟨c, hc, hct, hce⟩ := cut_t hC h e1.symm
   have hF : facesB (cut2 l s t) k = facesB l k := cut_none (by omega) (by omega)
   obtain ⟨n, hn⟩ : ∃ n, (facesB l (k - 1)).length = n + 1 := ⟨(facesB l (k - 1)).length - 1, by omega⟩
   have hn' : (facesB (cut2 l s t) (k - 1)).length = n := by rw [hce]; have := erase_len hc; omega
   rw [hF, hn, hn']
   refine col_zero (c := c) (by omega) (fun i hi => ?_) fun i j _ _ => ?_
   ·unfold Bm
    rw [hct]
    refine inc_none fun x hx e => ?_
    have hm : (facesB l k).getD i [] ∈ facesB l k := by rw [List.getD_eq_getElem?_getD, List.getElem?_eq_getElem hi]; exact List.getElem_mem _
    exact h.top hC (mem_facesB.1 hm).1 hx e
   ·unfold Bm
    rw [hce, erase_getD]
  ·by_cases e2 : k = (s.length : Int) - 1
   ·-- a row made of the others
    obtain ⟨r, hr, hrs, hre⟩ := cut_s hC h e2.symm
    have hG : facesB (cut2 l s t) (k - 1) = facesB l (k - 1) := cut_none (by omega) (by omega)
    obtain ⟨n, hn⟩ : ∃ n, (facesB l k).length = n + 1 := ⟨(facesB l k).length - 1, by omega⟩
    have hn' : (facesB (cut2 l s t) k).length = n := by rw [hre]; have := erase_len hr; omega
    obtain ⟨x, hx, hd⟩ := h.fc
    obtain ⟨q, hq, hqt⟩ := idx_of (mem_facesB.2 ⟨h.ht, show (t.length : Int) - 1 = k + 1 by omega⟩)
    rw [hG, hn, hn']
    refine row_made (r := r) (a := fun i => -sgn x * Bm (facesB l (k + 1)) (facesB l k) q (skip r i)) (by omega) (fun j hj => ?_) fun i j _ _ => ?_
    ·have h0 := bound_dot hC (k := k + 1) (by omega) hq (j := j) (by rw [show k + 1 - 1 - 1 = k - 1 by omega]; exact hj)
     rw [show k + 1 - 1 = k by omega, dotN_sm] at h0
     have h1 : sm (facesB l k).length (fun p => Bm (facesB l (k + 1)) (facesB l k) q p * Bm (facesB l k) (facesB l (k - 1)) p j) = 0 := by
      rw [← h0]
      refine sm_congr fun p hp => ?_
      have g1 := bound_cell hC (k := k + 1) (by omega) hq (j := p) (by rw [show k + 1 - 1 = k by omega]; exact hp)
      rw [show k + 1 - 1 = k by omega] at g1
      rw [g1, bound_cell hC hkp hp hj]
     rw [hn, sm_skip (r := r) (by omega)] at h1
     have hu : Bm (facesB l (k + 1)) (facesB l k) q r = sgn x := by
      unfold Bm; rw [hqt, hrs]; exact inc_free tp hx hd
     rw [hu] at h1
     have h2 : sm n (fun i => -sgn x * Bm (facesB l (k + 1)) (facesB l k) q (skip r i) * Bm (facesB l k) (facesB l (k - 1)) (skip r i) j) = -sgn x * sm n (fun i => Bm (facesB l (k + 1)) (facesB l k) q (skip r i) * Bm (facesB l k) (facesB l (k - 1)) (skip r i) j) := by
      rw [← sm_mul]; exact sm_congr fun i _ => Int.mul_assoc _ _ _
     rw [h2]
     have h3 : sm n (fun i => Bm (facesB l (k + 1)) (facesB l k) q (skip r i) * Bm (facesB l k) (facesB l (k - 1)) (skip r i) j) = -(sgn x * Bm (facesB l k) (facesB l (k - 1)) r j) := by omega
     rw [h3, Int.neg_mul_neg, ← Int.mul_assoc, sgn_sq, Int.one_mul]
    ·unfold Bm
     rw [hre, erase_getD]
   ·-- nothing changes
    have hF : facesB (cut2 l s t) k = facesB l k := cut_none (by omega) (by omega)
    have hG : facesB (cut2 l s t) (k - 1) = facesB l (k - 1) := cut_none (by omega) (by omega)
    rw [hF, hG]
    exact ⟨Fct.refl _ _ _, Fct.refl _ _ _⟩
 ·obtain ⟨r, hr, hrt, hre⟩ := cut_t hC h he.symm
  obtain ⟨c, hc, hcs, hce⟩ := cut_s hC h (k := k - 1) (by omega)
  have hn1 : nF l k = nF (cut2 l s t) k + 1 := by unfold nF; rw [hre]; exact (erase_len hr).symm
  have hn2 : nF l (k - 1) = nF (cut2 l s t) (k - 1) + 1 := by unfold nF; rw [hce]; exact (erase_len hc).symm
  obtain ⟨x, hx, hd⟩ := h.fc
  have H := piv_ext (R := nF (cut2 l s t) k) (C := nF (cut2 l s t) (k - 1)) (r := r) (c := c) (u := sgn x) (M := Bm (facesB l k) (facesB l (k - 1))) (M' := Bm (facesB (cut2 l s t) k) (facesB (cut2 l s t) (k - 1))) (by rw [← hn1]; exact hr) (by rw [← hn2]; exact hc) (sgn_sq x)
   (by unfold Bm; rw [hrt, hcs]; exact inc_free tp hx hd) (fun i hi hne => by
    unfold Bm
    rw [hcs]
    rw [← hn1] at hi
    have hm : (facesB l k).getD i [] ∈ facesB l k := by rw [List.getD_eq_getElem?_getD, List.getElem?_eq_getElem hi]; exact List.getElem_mem _
    refine inc_none fun y hy e => hne (nodup_getD (faces_nodup hC k) hi hr ?_)
    rw [hrt]
    exact h.only _ (mem_facesB.1 hm).1 ⟨y, hy, e⟩) fun i j _ _ => by
    unfold Bm
    rw [hre, hce, erase_getD, erase_getD]
  rw [← hn1, ← hn2] at H
  refine ⟨hn1, hn2, ?_, ?_⟩
  ·have := (m1.trans H.1)
   rw [hn1, hn2] at this ⊢
   exact this.trans m4.ext
  ·have := H.2.trans m2
   rw [hn1, hn2] at this ⊢
   exact m3.ext.trans this
theorem cut_count {l : List (List Int)} {s t : List Int} (hC : IsCplx l) (h : FreeP l s t) (k : Int) : nF l k = nF (cut2 l s t) k + (if k = (t.length : Int) - 1 then 1 else 0) + (if k + 1 = (t.length : Int) - 1 then 1 else 0) := by
 have hl := h.len
 unfold nF
 by_cases e1 : k = (t.length : Int) - 1
 ·obtain ⟨r, hr, -, hre⟩ := cut_t hC h e1.symm
  have := erase_len hr
  rw [if_pos e1, if_neg (by omega), hre]; omega
 ·by_cases e2 : k + 1 = (t.length : Int) - 1
  ·obtain ⟨r, hr, -, hre⟩ := cut_s hC h (k := k) (by omega)
   have := erase_len hr
   rw [if_neg e1, if_pos e2, hre]; omega
  ·rw [if_neg e1, if_neg e2, cut_none (by omega) (by omega)]; rfl
def HomV (l : List (List Int)) (k : Int) (N : Int) (T : List Int) : Prop := ∃ (r : Nat) (L : List Int), Rk (nF l k) (nF l (k - 1)) (MB l k) r ∧ Sm (nF l (k + 1)) (nF l (k + 1 - 1)) (MB l (k + 1)) L ∧ N = (nF l k : Int) - r - L.length ∧ T = gt1 L
theorem HomV.uniq {l : List (List Int)} {k N N' : Int} {T T' : List Int} (h : HomV l k N T) (h' : HomV l k N' T') : N = N' ∧ T = T' := by
 obtain ⟨r, L, a1, a2, a3, a4⟩ := h
 obtain ⟨r', L', b1, b2, b3, b4⟩ := h'
 have e1 := a1.uniq b1
 have e2 := a2.uniq b2
 subst e1
 subst e2
 exact ⟨a3.trans b3.symm, a4.trans b4.symm⟩
theorem gt1_cons (L : List Int) : gt1 (1 :: L) = gt1 L := by unfold gt1; rw [List.filter_cons, if_neg (by simp)]
theorem HomV.step {l : List (List Int)} {s t : List Int} (hC : IsCplx l) (h : FreeP l s t) {k N : Int} {T : List Int} (hk : 0 ≤ k) (hV : HomV (cut2 l s t) k N T) : HomV l k N T := by
 obtain ⟨r, L, a1, a2, a3, a4⟩ := hV
 obtain ⟨s1, s2⟩ := cut_step hC h hk
 obtain ⟨u1, u2⟩ := cut_step hC h (k := k + 1) (by omega)
 have hc := cut_count hC h k
 by_cases e1 : k = (t.length : Int) - 1
 ·obtain ⟨n1, n2, f, g⟩ := s2 e1
  obtain ⟨f', g'⟩ := u1 (by omega)
  rw [if_pos e1, if_neg (by omega)] at hc
  refine ⟨r + 1, L, ?_, a2.of f' g', ?_, a4⟩
  ·have := a1.ext
   exact this.of f g
  ·rw [a3]; push_cast; omega
 ·obtain ⟨f, g⟩ := s1 e1
  by_cases e2 : k + 1 = (t.length : Int) - 1
  ·obtain ⟨n1, n2, f', g'⟩ := u2 e2
   rw [if_neg e1, if_pos e2] at hc
   refine ⟨r, 1 :: L, a1.of f g, a2.ext.of f' g', ?_, by rw [gt1_cons]; exact a4⟩
   rw [a3, List.length_cons]; push_cast; omega
  ·obtain ⟨f', g'⟩ := u1 e2
   rw [if_neg e1, if_neg e2] at hc
   refine ⟨r, L, a1.of f g, a2.of f' g', ?_, a4⟩
   rw [a3]; push_cast; omega
theorem homV_of {l : List (List Int)} {k : Int} (h : homY l k = true) : HomV l k (homN l k) (homL l k) := by
 obtain ⟨k0, k3, c1, c2, a3, a4, a5, m2, m3⟩ := hom_parts h
 obtain ⟨C0, t, NK, R1, C1, Rx, Cx, bb, hbb, hbo, hNt, hC1, q1, q2, r1, r2, r3, hF, f1, f2⟩ := qu_parts a3 a4 a5
 have e0 : boundB l k = boundM l k := by unfold boundB; rw [if_pos c1]
 have e1 : boundB l (k + 1) = boundM l (k + 1) := by unfold boundB; rw [if_pos c2]
 have hle := hF.le
 have hch := hF.chn
 obtain ⟨R2, hr2, -, hf, hg⟩ := bas_rows hbb hbo
 have x1 : R2 = nF l k := by rw [e0] at hr2; exact (Int.ofNat.inj hr2).symm
 have x2 : C0 = nF l (k - 1) := by have := hbb.cols; rw [e0] at this; exact (Int.ofNat.inj this).symm
 have x3 : R1 = nF l (k + 1) := by rw [e1] at r1; exact (Int.ofNat.inj r1).symm
 have x4 : C1 = nF l (k + 1 - 1) := by rw [e1] at r2; exact (Int.ofNat.inj r2).symm
 rw [e0] at hf hg
 have em : (boundB l (k + 1)).cells = (boundM l (k + 1)).cells := by rw [e1]
 rw [em] at f1 f2
 subst x1
 subst x2
 subst x3
 subst x4
 have hn : (nF l k : Int) = NK + t := by rw [hNt] at hr2; omega
 refine ⟨t, quF (boundB l k) (boundB l (k + 1)), ⟨_, _, bas_ind hbb hbo, hf.fct, hg.fct⟩, ⟨hch, Rx, Cx, hle, ?_, ?_⟩, ?_, m3.trans q2⟩
 ·exact f2.trans hF.bw
 ·exact hF.fw.trans f1
 ·have : homN l k = quN (kerB (boundB l k)) (basB (boundB l (k + 1))) := m2
  rw [this, q1]; omega
theorem coll_step : ∀ (n : Nat) {l : List (List Int)}, IsCplx l → IsCplx (collN n l) ∧ eulS l = eulS (collN n l) ∧ (∀ {k N : Int} {T : List Int}, 0 ≤ k → HomV (collN n l) k N T → HomV l k N T) ∧ (l.length ≤ n → (freeB (collN n l)).1 < 0)
 | 0, l, hC => ⟨hC, rfl, fun _ h => h, fun hl => by
  have : l = [] := List.eq_nil_of_length_eq_zero (by omega)
  subst this
  show (freeFrom [] 0 0).1 < 0
  simp [freeFrom]⟩
 | n + 1, l, hC => by
  by_cases hf : (freeB l).1 < 0
  ·have e : collN (n + 1) l = l := by simp only [collN, if_pos hf]
   rw [e]
   exact ⟨hC, rfl, fun _ h => h, fun _ => hf⟩
  ·have e : collN (n + 1) l = collN n (dropIJ (freeB l).1 (freeB l).2 0 l) := by simp only [collN, if_neg hf]
   have hlt := free_lt l hf
   obtain ⟨s, t, hF, hd⟩ := free_step hC hf
   rw [hd] at e hlt
   obtain ⟨i1, i2, i3, i4⟩ := coll_step n (cut2_cplx hC hF)
   rw [e]
   exact ⟨i1, (cut2_eul hC hF).trans i2, fun hk hV => HomV.step hC hF hk (i3 hk hV), fun hl => i4 (by omega)⟩
theorem coll_all {l : List (List Int)} (h : isCplxB l = true) : isCplxB (collapseB l) = true ∧ eulB (collapseB l) = eulB l ∧ collapseB (collapseB l) = collapseB l ∧ ∀ {k : Int}, 0 ≤ k → homY l k = true → homY (collapseB l) k = true → homN l k = homN (collapseB l) k ∧ homL l k = homL (collapseB l) k := by
 have hC := isCplxB_iff.1 h
 have e : collapseB l = collN l.length l := by unfold collapseB collB; rw [if_pos h]
 obtain ⟨i1, i2, i3, i4⟩ := coll_step l.length hC
 have hx : isCplxB (collN l.length l) = true := isCplxB_iff.2 i1
 rw [e]
 refine ⟨hx, ?_, ?_, fun hk h1 h2 => ?_⟩
 ·unfold eulB; rw [if_pos h, if_pos hx, i2]
 ·unfold collapseB
  rw [if_pos hx]
  exact collB_stop (i4 (Nat.le_refl _))
 ·exact (homV_of h1).uniq (i3 hk (homV_of h2))
--END
end Go.Proofs.Ytjepiemflpjjhaa
