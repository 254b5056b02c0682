/-
  Sums, integer matrices as functions, and what divides what: plain.
-/
import Derived.Test.YtneeelebnnfbeaaZIsMat
set_option maxHeartbeats 8000000
set_option maxRecDepth 100000
namespace Go.Proofs.Ytneeelebnnfbeaa
--BODY
def sm : Nat → (Nat → Int) → Int
 | 0, _ => 0
 | n + 1, f => sm n f + f n
theorem sm_congr {f g : Nat → Int} : ∀ {n : Nat}, (∀ i, i < n → f i = g i) → sm n f = sm n g
 | 0, _ => rfl
 | n + 1, h => by simp only [sm]; rw [sm_congr fun i hi => h i (by omega), h n (by omega)]
theorem sm_zero {f : Nat → Int} : ∀ {n : Nat}, (∀ i, i < n → f i = 0) → sm n f = 0
 | 0, _ => rfl
 | n + 1, h => by simp only [sm]; rw [sm_zero fun i hi => h i (by omega), h n (by omega)]; rfl
theorem sm_add (f g : Nat → Int) : ∀ n : Nat, sm n (fun i => f i + g i) = sm n f + sm n g
 | 0 => rfl
 | n + 1 => by simp only [sm]; rw [sm_add f g n]; omega
theorem sm_neg (f : Nat → Int) : ∀ n : Nat, sm n (fun i => -f i) = -sm n f
 | 0 => rfl
 | n + 1 => by simp only [sm]; rw [sm_neg f n]; omega
theorem sm_mul (c : Int) (f : Nat → Int) : ∀ n : Nat, sm n (fun i => c * f i) = c * sm n f
 | 0 => by simp [sm]
 | n + 1 => by simp only [sm]; rw [sm_mul c f n, Int.mul_add]
theorem sm_mulr (c : Int) (f : Nat → Int) (n : Nat) : sm n (fun i => f i * c) = sm n f * c := by
 rw [Int.mul_comm, ← sm_mul]; exact sm_congr fun i _ => Int.mul_comm _ _
theorem sm_swap (f : Nat → Nat → Int) : ∀ n m : Nat, sm n (fun i => sm m fun j => f i j) = sm m (fun j => sm n fun i => f i j)
 | 0, m => (sm_zero fun _ _ => rfl).symm
 | n + 1, m => by simp only [sm]; rw [sm_swap f n m, ← sm_add]
theorem sm_one {f : Nat → Int} {c : Nat} : ∀ {n : Nat}, c < n → (∀ i, i < n → i ≠ c → f i = 0) → sm n f = f c
 | 0, h, _ => by omega
 | n + 1, h, hz => by
  simp only [sm]
  by_cases e : c = n
  ·subst e; rw [sm_zero fun i hi => hz i (by omega) (by omega)]; omega
  ·rw [sm_one (by omega) fun i hi => hz i (by omega), hz n (by omega) (fun e2 => e e2.symm)]; omega
abbrev Mx := Nat → Nat → Int
def mm (n : Nat) (A B : Mx) : Mx := fun i j => sm n fun k => A i k * B k j
theorem mm_assoc (n m : Nat) (A B D : Mx) (i j : Nat) : mm m (mm n A B) D i j = mm n A (mm m B D) i j := by
 unfold mm
 rw [sm_congr (g := fun k => sm n fun q => A i q * B q k * D k j) fun k _ => (sm_mulr _ _ _).symm, sm_swap]
 refine sm_congr fun k _ => ?_
 rw [← sm_mul]
 exact sm_congr fun q _ => Int.mul_assoc _ _ _
theorem mm_congr {n : Nat} {A A' B B' : Mx} {i j : Nat} (h1 : ∀ k, k < n → A i k = A' i k) (h2 : ∀ k, k < n → B k j = B' k j) : mm n A B i j = mm n A' B' i j :=
 sm_congr fun k hk => by rw [h1 k hk, h2 k hk]
def oneM : Mx := fun i j => if i = j then 1 else 0
theorem oneM_mm {n : Nat} {A : Mx} {i j : Nat} (hi : i < n) : mm n oneM A i j = A i j := by
 unfold mm
 rw [sm_one hi fun k _ hk => by unfold oneM; rw [if_neg fun e => hk e.symm, Int.zero_mul]]
 unfold oneM; rw [if_pos rfl, Int.one_mul]
theorem mm_oneM {n : Nat} {A : Mx} {i j : Nat} (hj : j < n) : mm n A oneM i j = A i j := by
 unfold mm
 rw [sm_one hj fun k _ hk => by unfold oneM; rw [if_neg hk, Int.mul_zero]]
 unfold oneM; rw [if_pos rfl, Int.mul_one]
def Fct (R' C' : Nat) (M' : Mx) (R C : Nat) (M : Mx) : Prop := ∃ A B : Mx, ∀ i j, i < R' → j < C' → M' i j = mm C (mm R A M) B i j
theorem Fct.refl (R C : Nat) (M : Mx) : Fct R C M R C M := ⟨oneM, oneM, fun i j hi hj => by rw [mm_oneM hj, oneM_mm hi]⟩
theorem mm_congr2 {n : Nat} {A B B' : Mx} {i j : Nat} (h : ∀ k, k < n → B k j = B' k j) : mm n A B i j = mm n A B' i j := mm_congr (fun _ _ => rfl) h
theorem mm_congr1 {n : Nat} {A A' B : Mx} {i j : Nat} (h : ∀ k, k < n → A i k = A' i k) : mm n A B i j = mm n A' B i j := mm_congr h fun _ _ => rfl
theorem Fct.trans {R1 C1 R2 C2 R3 C3 : Nat} {M1 M2 M3 : Mx} (h : Fct R1 C1 M1 R2 C2 M2) (h' : Fct R2 C2 M2 R3 C3 M3) : Fct R1 C1 M1 R3 C3 M3 := by
 obtain ⟨A, B, h⟩ := h
 obtain ⟨A', B', h'⟩ := h'
 refine ⟨mm R2 A A', mm C2 B' B, fun i j hi hj => ?_⟩
 rw [h i j hi hj]
 have e1 : ∀ k, k < C2 → mm R2 A M2 i k = mm C3 (mm R3 (mm R2 A A') M3) B' i k := fun k hk => by
  rw [mm_congr2 (B' := mm C3 (mm R3 A' M3) B') fun q hq => h' q k hq hk, ← mm_assoc]
  exact mm_congr1 fun q _ => (mm_assoc _ _ _ _ _ _ _).symm
 rw [mm_congr1 e1, mm_assoc]
def Rwf (R' : Nat) (M' : Mx) (R C : Nat) (M : Mx) : Prop := ∃ A : Mx, ∀ i j, i < R' → j < C → M' i j = mm R A M i j
theorem Rwf.refl (R C : Nat) (M : Mx) : Rwf R M R C M := ⟨oneM, fun _ _ hi _ => (oneM_mm hi).symm⟩
theorem Rwf.trans {R1 R2 R3 C : Nat} {M1 M2 M3 : Mx} (h : Rwf R1 M1 R2 C M2) (h' : Rwf R2 M2 R3 C M3) : Rwf R1 M1 R3 C M3 := by
 obtain ⟨A, h⟩ := h
 obtain ⟨A', h'⟩ := h'
 refine ⟨mm R2 A A', fun i j hi hj => ?_⟩
 rw [h i j hi hj, mm_congr2 (B' := mm R3 A' M3) fun q hq => h' q j hq hj, mm_assoc]
def Spn (R C : Nat) (M : Mx) (v : Nat → Int) : Prop := ∃ a : Nat → Int, ∀ j, j < C → v j = sm R fun i => a i * M i j
theorem Rwf.of_rows {R' R C : Nat} {M M' : Mx} (h : ∀ i, i < R' → Spn R C M (M' i)) : Rwf R' M' R C M := by
 have h2 : ∀ i, ∃ a : Nat → Int, i < R' → ∀ j, j < C → M' i j = sm R fun q => a q * M q j := fun i => by
  by_cases hi : i < R'
  ·obtain ⟨a, ha⟩ := h i hi; exact ⟨a, fun _ => ha⟩
  ·exact ⟨fun _ => 0, fun h => (hi h).elim⟩
 exact ⟨fun i => (h2 i).choose, fun i j hi hj => (h2 i).choose_spec hi j hj⟩
theorem Rwf.row {R' R C : Nat} {M M' : Mx} (h : Rwf R' M' R C M) {i : Nat} (hi : i < R') : Spn R C M (M' i) := by
 obtain ⟨A, h⟩ := h
 exact ⟨A i, fun j hj => h i j hi hj⟩
theorem Spn.of_rwf {R R' C : Nat} {M M' : Mx} {v : Nat → Int} (h : Spn R' C M' v) (h' : Rwf R' M' R C M) : Spn R C M v := by
 have : Rwf 1 (fun _ => v) R' C M' := Rwf.of_rows fun _ _ => h
 exact (this.trans h').row (i := 0) (by omega)
theorem Spn.row {R C : Nat} {M : Mx} {i : Nat} (hi : i < R) : Spn R C M (M i) := (Rwf.refl R C M).row hi
theorem Spn.zero {R C : Nat} {M : Mx} {v : Nat → Int} (h : ∀ j, j < C → v j = 0) : Spn R C M v := ⟨fun _ => 0, fun j hj => by rw [h j hj, sm_zero fun _ _ => Int.zero_mul _]⟩
theorem Spn.congr {R C : Nat} {M : Mx} {v u : Nat → Int} (h : Spn R C M v) (e : ∀ j, j < C → u j = v j) : Spn R C M u := by
 obtain ⟨a, ha⟩ := h
 exact ⟨a, fun j hj => (e j hj).trans (ha j hj)⟩
theorem Spn.sum {R C : Nat} {M : Mx} {n : Nat} {u : Nat → Nat → Int} {a : Nat → Int} {x : Nat → Int} (h : ∀ k, k < n → Spn R C M (u k)) (e : ∀ j, j < C → x j = sm n fun k => a k * u k j) : Spn R C M x := by
 have : Rwf n u R C M := Rwf.of_rows h
 exact Spn.of_rwf ⟨a, e⟩ this
theorem siegelF : ∀ (n k : Nat) (M : Mx), n < k → ∃ y : Nat → Int, (∀ j, k ≤ j → y j = 0) ∧ (∃ j, j < k ∧ y j ≠ 0) ∧ ∀ i, i < n → sm k (fun j => M i j * y j) = 0
 | 0, k, M, h => ⟨fun j => if j = 0 then 1 else 0, fun j hj => if_neg (by omega), ⟨0, h, by simp⟩, fun i hi => by omega⟩
 | n + 1, k + 1, M, h => by
  by_cases hz : ∀ i, i < n + 1 → M i k = 0
  ·refine ⟨fun j => if j = k then 1 else 0, fun j hj => if_neg (by omega), ⟨k, by omega, by simp⟩, fun i hi => sm_zero fun j hj => ?_⟩
   by_cases e : j = k
   ·subst e; rw [hz i hi, Int.zero_mul]
   ·simp only [if_neg e, Int.mul_zero]
  ·-- an equation p in which the last unknown stands
   obtain ⟨p, hp, hpk⟩ : ∃ p, p < n + 1 ∧ M p k ≠ 0 := Classical.byContradiction fun h1 => hz fun i hi => Classical.byContradiction fun h2 => h1 ⟨i, hi, h2⟩
   obtain ⟨y, hy0, ⟨q, hq, hyq⟩, hy⟩ := siegelF n k (fun i j => M p k * M (if i < p then i else i + 1) j - M (if i < p then i else i + 1) k * M p j) (by omega)
   refine ⟨fun j => if j = k then -sm k (fun j => M p j * y j) else M p k * y j, fun j hj => ?_, ⟨q, by omega, ?_⟩, fun i hi => ?_⟩
   ·simp only [if_neg (show ¬ j = k by omega), hy0 j (by omega), Int.mul_zero]
   ·simp only [if_neg (show ¬ q = k by omega)]
    exact Int.mul_ne_zero hpk hyq
   ·simp only [sm, if_true]
    have e1 : sm k (fun j => M i j * if j = k then -sm k (fun j => M p j * y j) else M p k * y j) = M p k * sm k (fun j => M i j * y j) := by
     rw [← sm_mul]
     refine sm_congr fun j hj => ?_
     rw [if_neg (show ¬ j = k by omega), ← Int.mul_assoc, ← Int.mul_assoc, Int.mul_comm (M i j)]
    rw [e1]
    by_cases e : i = p
    ·subst e
     rw [Int.mul_neg]; omega
    ·have h3 := hy (if i < p then i else i - 1) (by split <;> omega)
     have e2 : (if (if i < p then i else i - 1) < p then (if i < p then i else i - 1) else (if i < p then i else i - 1) + 1) = i := by
      by_cases hlt : i < p
      ·rw [if_pos hlt, if_pos hlt]
      ·rw [if_neg hlt, if_neg (by omega)]; omega
     simp only [e2] at h3
     have e3 : sm k (fun j => (M p k * M i j - M i k * M p j) * y j) = M p k * sm k (fun j => M i j * y j) - M i k * sm k (fun j => M p j * y j) := by
      rw [← sm_mul, ← sm_mul, Int.sub_eq_add_neg, ← sm_neg, ← sm_add]
      exact sm_congr fun j _ => by rw [Int.sub_mul, Int.mul_assoc, Int.mul_assoc, Int.sub_eq_add_neg]
     rw [e3] at h3
     rw [Int.mul_neg]; omega
end Go.Proofs.Ytneeelebnnfbeaa
