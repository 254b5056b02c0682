/-
  Sums, integer matrices as functions, and what divides what: plain.
-/
import Derived.Test.YtoiblknchcoecaaGreatZIsMat
import Derived.Test.YtoiblknchcoecaaGreatZHerm
set_option maxHeartbeats 8000000
set_option maxRecDepth 100000
namespace Go.Proofs.YtoiblknchcoecaaGreat
--BODY
def sm : Nat → (Nat → Int) → Int
 | 0, _ => 0
 | n + 1, f => sm n f + f n
theorem sm_congr {f g : Nat → Int} : ∀ {n : Nat}, (∀ i, i < n → f i = g i) → sm n f = sm n g
 | 0, _ => rfl
 | n + 1, h => by simp only [sm]; rw [sm_congr fun i hi => h i (by omega), h n (by omega)]
theorem sm_zero {f : Nat → Int} : ∀ {n : Nat}, (∀ i, i < n → f i = 0) → sm n f = 0
 | 0, _ => rfl
 | n + 1, h => by simp only [sm]; rw [sm_zero fun i hi => h i (by omega), h n (by omega)]; rfl
theorem sm_add (f g : Nat → Int) : ∀ n : Nat, sm n (fun i => f i + g i) = sm n f + sm n g
 | 0 => rfl
 | n + 1 => by simp only [sm]; rw [sm_add f g n]; omega
theorem sm_neg (f : Nat → Int) : ∀ n : Nat, sm n (fun i => -f i) = -sm n f
 | 0 => rfl
 | n + 1 => by simp only [sm]; rw [sm_neg f n]; omega
theorem sm_mul (c : Int) (f : Nat → Int) : ∀ n : Nat, sm n (fun i => c * f i) = c * sm n f
 | 0 => by simp [sm]
 | n + 1 => by simp only [sm]; rw [sm_mul c f n, Int.mul_add]
theorem sm_mulr (c : Int) (f : Nat → Int) (n : Nat) : sm n (fun i => f i * c) = sm n f * c := by
 rw [Int.mul_comm, ← sm_mul]; exact sm_congr fun i _ => Int.mul_comm _ _
theorem sm_swap (f : Nat → Nat → Int) : ∀ n m : Nat, sm n (fun i => sm m fun j => f i j) = sm m (fun j => sm n fun i => f i j)
 | 0, m => (sm_zero fun _ _ => rfl).symm
 | n + 1, m => by simp only [sm]; rw [sm_swap f n m, ← sm_add]
theorem sm_one {f : Nat → Int} {c : Nat} : ∀ {n : Nat}, c < n → (∀ i, i < n → i ≠ c → f i = 0) → sm n f = f c
 | 0, h, _ => by omega
 | n + 1, h, hz => by
  simp only [sm]
  by_cases e : c = n
  ·subst e; rw [sm_zero fun i hi => hz i (by omega) (by omega)]; omega
  ·rw [sm_one (by omega) fun i hi => hz i (by omega), hz n (by omega) (fun e2 => e e2.symm)]; omega
theorem sm_dvd {f : Nat → Int} {d : Int} : ∀ {n : Nat}, (∀ i, i < n → d ∣ f i) → d ∣ sm n f
 | 0, _ => Int.dvd_zero _
 | n + 1, h => Int.dvd_add (sm_dvd fun i hi => h i (by omega)) (h n (by omega))
theorem sm_ext {f : Nat → Int} {n : Nat} : ∀ {m : Nat}, n ≤ m → (∀ i, n ≤ i → i < m → f i = 0) → sm m f = sm n f
 | 0, h, _ => by
  obtain rfl : n = 0 := by omega
  rfl
 | m + 1, h, hz => by
  by_cases e : n = m + 1
  ·subst e; rfl
  ·simp only [sm]; rw [sm_ext (by omega) fun i h1 h2 => hz i h1 (by omega), hz m (by omega) (by omega)]; omega
theorem sm_split (f : Nat → Int) (n : Nat) : ∀ m : Nat, sm (n + m) f = sm n f + sm m fun i => f (n + i)
 | 0 => by simp [sm]
 | m + 1 => by
  show sm (n + m) f + f (n + m) = _
  rw [sm_split f n m]; simp only [sm]; omega
abbrev Mx := Nat → Nat → Int
def mm (n : Nat) (A B : Mx) : Mx := fun i j => sm n fun k => A i k * B k j
theorem mm_assoc (n m : Nat) (A B D : Mx) (i j : Nat) : mm m (mm n A B) D i j = mm n A (mm m B D) i j := by
 unfold mm
 rw [sm_congr (g := fun k => sm n fun q => A i q * B q k * D k j) fun k _ => (sm_mulr _ _ _).symm, sm_swap]
 refine sm_congr fun k _ => ?_
 rw [← sm_mul]
 exact sm_congr fun q _ => Int.mul_assoc _ _ _
theorem mm_congr {n : Nat} {A A' B B' : Mx} {i j : Nat} (h1 : ∀ k, k < n → A i k = A' i k) (h2 : ∀ k, k < n → B k j = B' k j) : mm n A B i j = mm n A' B' i j :=
 sm_congr fun k hk => by rw [h1 k hk, h2 k hk]
def oneM : Mx := fun i j => if i = j then 1 else 0
theorem oneM_mm {n : Nat} {A : Mx} {i j : Nat} (hi : i < n) : mm n oneM A i j = A i j := by
 unfold mm
 rw [sm_one hi fun k _ hk => by unfold oneM; rw [if_neg fun e => hk e.symm, Int.zero_mul]]
 unfold oneM; rw [if_pos rfl, Int.one_mul]
theorem mm_oneM {n : Nat} {A : Mx} {i j : Nat} (hj : j < n) : mm n A oneM i j = A i j := by
 unfold mm
 rw [sm_one hj fun k _ hk => by unfold oneM; rw [if_neg hk, Int.mul_zero]]
 unfold oneM; rw [if_pos rfl, Int.mul_one]
def Fct (R' C' : Nat) (M' : Mx) (R C : Nat) (M : Mx) : Prop := ∃ A B : Mx, ∀ i j, i < R' → j < C' → M' i j = mm C (mm R A M) B i j
theorem Fct.refl (R C : Nat) (M : Mx) : Fct R C M R C M := ⟨oneM, oneM, fun i j hi hj => by rw [mm_oneM hj, oneM_mm hi]⟩
theorem Fct.of_eq {R C : Nat} {M M' : Mx} (h : ∀ i j : Nat, i < R → j < C → M' i j = M i j) : Fct R C M' R C M := ⟨oneM, oneM, fun i j hi hj => by rw [mm_oneM hj, oneM_mm hi]; exact h i j hi hj⟩
theorem mm_congr2 {n : Nat} {A B B' : Mx} {i j : Nat} (h : ∀ k, k < n → B k j = B' k j) : mm n A B i j = mm n A B' i j := mm_congr (fun _ _ => rfl) h
theorem mm_congr1 {n : Nat} {A A' B : Mx} {i j : Nat} (h : ∀ k, k < n → A i k = A' i k) : mm n A B i j = mm n A' B i j := mm_congr h fun _ _ => rfl
theorem Fct.trans {R1 C1 R2 C2 R3 C3 : Nat} {M1 M2 M3 : Mx} (h : Fct R1 C1 M1 R2 C2 M2) (h' : Fct R2 C2 M2 R3 C3 M3) : Fct R1 C1 M1 R3 C3 M3 := by
 obtain ⟨A, B, h⟩ := h
 obtain ⟨A', B', h'⟩ := h'
 refine ⟨mm R2 A A', mm C2 B' B, fun i j hi hj => ?_⟩
 rw [h i j hi hj]
 have e1 : ∀ k, k < C2 → mm R2 A M2 i k = mm C3 (mm R3 (mm R2 A A') M3) B' i k := fun k hk => by
  rw [mm_congr2 (B' := mm C3 (mm R3 A' M3) B') fun q hq => h' q k hq hk, ← mm_assoc]
  exact mm_congr1 fun q _ => (mm_assoc _ _ _ _ _ _ _).symm
 rw [mm_congr1 e1, mm_assoc]
def Rwf (R' : Nat) (M' : Mx) (R C : Nat) (M : Mx) : Prop := ∃ A : Mx, ∀ i j, i < R' → j < C → M' i j = mm R A M i j
theorem Rwf.refl (R C : Nat) (M : Mx) : Rwf R M R C M := ⟨oneM, fun _ _ hi _ => (oneM_mm hi).symm⟩
theorem Rwf.trans {R1 R2 R3 C : Nat} {M1 M2 M3 : Mx} (h : Rwf R1 M1 R2 C M2) (h' : Rwf R2 M2 R3 C M3) : Rwf R1 M1 R3 C M3 := by
 obtain ⟨A, h⟩ := h
 obtain ⟨A', h'⟩ := h'
 refine ⟨mm R2 A A', fun i j hi hj => ?_⟩
 rw [h i j hi hj, mm_congr2 (B' := mm R3 A' M3) fun q hq => h' q j hq hj, mm_assoc]
theorem Rwf.fct {R' R C : Nat} {M M' : Mx} (h : Rwf R' M' R C M) : Fct R' C M' R C M := by
 obtain ⟨A, h⟩ := h
 exact ⟨A, oneM, fun i j hi hj => by rw [mm_oneM hj]; exact h i j hi hj⟩
def Spn (R C : Nat) (M : Mx) (v : Nat → Int) : Prop := ∃ a : Nat → Int, ∀ j, j < C → v j = sm R fun i => a i * M i j
theorem Rwf.of_rows {R' R C : Nat} {M M' : Mx} (h : ∀ i, i < R' → Spn R C M (M' i)) : Rwf R' M' R C M := by
 have h2 : ∀ i, ∃ a : Nat → Int, i < R' → ∀ j, j < C → M' i j = sm R fun q => a q * M q j := fun i => by
  by_cases hi : i < R'
  ·obtain ⟨a, ha⟩ := h i hi; exact ⟨a, fun _ => ha⟩
  ·exact ⟨fun _ => 0, fun h => (hi h).elim⟩
 exact ⟨fun i => (h2 i).choose, fun i j hi hj => (h2 i).choose_spec hi j hj⟩
theorem Rwf.row {R' R C : Nat} {M M' : Mx} (h : Rwf R' M' R C M) {i : Nat} (hi : i < R') : Spn R C M (M' i) := by
 obtain ⟨A, h⟩ := h
 exact ⟨A i, fun j hj => h i j hi hj⟩
theorem Spn.of_rwf {R R' C : Nat} {M M' : Mx} {v : Nat → Int} (h : Spn R' C M' v) (h' : Rwf R' M' R C M) : Spn R C M v := by
 have : Rwf 1 (fun _ => v) R' C M' := Rwf.of_rows fun _ _ => h
 exact (this.trans h').row (i := 0) (by omega)
theorem Spn.row {R C : Nat} {M : Mx} {i : Nat} (hi : i < R) : Spn R C M (M i) := (Rwf.refl R C M).row hi
theorem Spn.zero {R C : Nat} {M : Mx} {v : Nat → Int} (h : ∀ j, j < C → v j = 0) : Spn R C M v := ⟨fun _ => 0, fun j hj => by rw [h j hj, sm_zero fun _ _ => Int.zero_mul _]⟩
theorem Spn.congr {R C : Nat} {M : Mx} {v u : Nat → Int} (h : Spn R C M v) (e : ∀ j, j < C → u j = v j) : Spn R C M u := by
 obtain ⟨a, ha⟩ := h
 exact ⟨a, fun j hj => (e j hj).trans (ha j hj)⟩
theorem Spn.comb {R C : Nat} {M : Mx} {u v x : Nat → Int} (h : Spn R C M u) (h' : Spn R C M v) (a b : Int) (e : ∀ j, j < C → x j = a * u j + b * v j) : Spn R C M x := by
 obtain ⟨p, hp⟩ := h
 obtain ⟨q, hq⟩ := h'
 refine ⟨fun i => a * p i + b * q i, fun j hj => ?_⟩
 rw [e j hj, hp j hj, hq j hj, ← sm_mul, ← sm_mul, ← sm_add]
 exact sm_congr fun i _ => by rw [Int.add_mul, Int.mul_assoc, Int.mul_assoc]
theorem Spn.sum {R C : Nat} {M : Mx} {n : Nat} {u : Nat → Nat → Int} {a : Nat → Int} {x : Nat → Int} (h : ∀ k, k < n → Spn R C M (u k)) (e : ∀ j, j < C → x j = sm n fun k => a k * u k j) : Spn R C M x := by
 have : Rwf n u R C M := Rwf.of_rows h
 exact Spn.of_rwf ⟨a, e⟩ this
theorem siegelF : ∀ (n k : Nat) (M : Mx), n < k → ∃ y : Nat → Int, (∀ j, k ≤ j → y j = 0) ∧ (∃ j, j < k ∧ y j ≠ 0) ∧ ∀ i, i < n → sm k (fun j => M i j * y j) = 0
 | 0, k, M, h => ⟨fun j => if j = 0 then 1 else 0, fun j hj => if_neg (by omega), ⟨0, h, by simp⟩, fun i hi => by omega⟩
 | n + 1, k + 1, M, h => by
  by_cases hz : ∀ i, i < n + 1 → M i k = 0
  ·refine ⟨fun j => if j = k then 1 else 0, fun j hj => if_neg (by omega), ⟨k, by omega, by simp⟩, fun i hi => sm_zero fun j hj => ?_⟩
   by_cases e : j = k
   ·subst e; rw [hz i hi, Int.zero_mul]
   ·simp only [if_neg e, Int.mul_zero]
  ·-- an equation p in which the last unknown stands
   obtain ⟨p, hp, hpk⟩ : ∃ p, p < n + 1 ∧ M p k ≠ 0 := Classical.byContradiction fun h1 => hz fun i hi => Classical.byContradiction fun h2 => h1 ⟨i, hi, h2⟩
   obtain ⟨y, hy0, ⟨q, hq, hyq⟩, hy⟩ := siegelF n k (fun i j => M p k * M (if i < p then i else i + 1) j - M (if i < p then i else i + 1) k * M p j) (by omega)
   refine ⟨fun j => if j = k then -sm k (fun j => M p j * y j) else M p k * y j, fun j hj => ?_, ⟨q, by omega, ?_⟩, fun i hi => ?_⟩
   ·simp only [if_neg (show ¬ j = k by omega), hy0 j (by omega), Int.mul_zero]
   ·simp only [if_neg (show ¬ q = k by omega)]
    exact Int.mul_ne_zero hpk hyq
   ·simp only [sm, if_true]
    have e1 : sm k (fun j => M i j * if j = k then -sm k (fun j => M p j * y j) else M p k * y j) = M p k * sm k (fun j => M i j * y j) := by
     rw [← sm_mul]
     refine sm_congr fun j hj => ?_
     rw [if_neg (show ¬ j = k by omega), ← Int.mul_assoc, ← Int.mul_assoc, Int.mul_comm (M i j)]
    rw [e1]
    by_cases e : i = p
    ·subst e
     rw [Int.mul_neg]; omega
    ·have h3 := hy (if i < p then i else i - 1) (by split <;> omega)
     have e2 : (if (if i < p then i else i - 1) < p then (if i < p then i else i - 1) else (if i < p then i else i - 1) + 1) = i := by
      by_cases hlt : i < p
      ·rw [if_pos hlt, if_pos hlt]
      ·rw [if_neg hlt, if_neg (by omega)]; omega
     simp only [e2] at h3
     have e3 : sm k (fun j => (M p k * M i j - M i k * M p j) * y j) = M p k * sm k (fun j => M i j * y j) - M i k * sm k (fun j => M p j * y j) := by
      rw [← sm_mul, ← sm_mul, Int.sub_eq_add_neg, ← sm_neg, ← sm_add]
      exact sm_congr fun j _ => by rw [Int.sub_mul, Int.mul_assoc, Int.mul_assoc, Int.sub_eq_add_neg]
     rw [e3] at h3
     rw [Int.mul_neg]; omega
def absS (y : Nat → Int) : Nat → Nat
 | 0 => 0
 | n + 1 => absS y n + (y n).natAbs
theorem absS_le {y z : Nat → Int} : ∀ {n : Nat}, (∀ j, j < n → (y j).natAbs ≤ (z j).natAbs) → absS y n ≤ absS z n
 | 0, _ => Nat.le_refl _
 | n + 1, h => Nat.add_le_add (absS_le fun j hj => h j (by omega)) (h n (by omega))
theorem absS_lt {y z : Nat → Int} : ∀ {n : Nat}, (∀ j, j < n → (y j).natAbs ≤ (z j).natAbs) → (∃ j, j < n ∧ (y j).natAbs < (z j).natAbs) → absS y n < absS z n
 | 0, _, ⟨_, h, _⟩ => by omega
 | n + 1, h, ⟨j, hj, hlt⟩ => by
  simp only [absS]
  by_cases e : j = n
  ·subst e
   have := absS_le (n := j) fun i hi => h i (by omega)
   omega
  ·have := absS_lt (n := n) (fun i hi => h i (by omega)) ⟨j, by omega, hlt⟩
   have := h n (by omega)
   omega
theorem prim_of {k : Nat} {P : (Nat → Int) → Prop} (hP : ∀ (y z : Nat → Int) (d : Int), d ≠ 0 → P y → (∀ j, y j = d * z j) → P z) : ∀ (b : Nat) (y : Nat → Int), absS y k ≤ b → P y → (∃ j, j < k ∧ y j ≠ 0) → (∀ j, k ≤ j → y j = 0) → ∃ z, P z ∧ (∃ j, j < k ∧ z j ≠ 0) ∧ (∀ j, k ≤ j → z j = 0) ∧ ∀ d : Int, (∀ j, j < k → d ∣ z j) → d ∣ 1
 | b, y, hb, hy, hne, h0 => by
  by_cases hd : ∀ d : Int, (∀ j, j < k → d ∣ y j) → d ∣ 1
  ·exact ⟨y, hy, hne, h0, hd⟩
  ·obtain ⟨d, hd, h1⟩ : ∃ d : Int, (∀ j, j < k → d ∣ y j) ∧ ¬ d ∣ 1 := Classical.byContradiction fun h => hd fun d h2 => Classical.byContradiction fun h3 => h ⟨d, h2, h3⟩
   obtain ⟨q, hq, hyq⟩ := hne
   have hd0 : d ≠ 0 := fun e => by
    subst e
    exact hyq (Int.zero_dvd.1 (hd q hq))
   have hd1 : d.natAbs ≠ 1 := fun e => h1 (by
    rcases Int.natAbs_eq d with e2 | e2
    ·rw [e2, e]; exact Int.dvd_refl _
    ·rw [e2, e]; exact ⟨-1, rfl⟩)
   have hz : ∀ j, y j = d * (y j / d) := fun j => by
    by_cases hj : j < k
    ·exact (Int.mul_ediv_cancel' (hd j hj)).symm
    ·rw [h0 j (by omega)]; simp
   have habs : ∀ j, (y j).natAbs = d.natAbs * (y j / d).natAbs := fun j => by rw [← Int.natAbs_mul, ← hz j]
   have hda : 2 ≤ d.natAbs := by have : d.natAbs ≠ 0 := Int.natAbs_ne_zero.2 hd0; omega
   have hle : ∀ j, 2 * (y j / d).natAbs ≤ (y j).natAbs := fun j => by rw [habs j]; exact Nat.mul_le_mul_right _ hda
   have hlt : absS (fun j => y j / d) k < absS y k := absS_lt (fun j _ => by have := hle j; omega) ⟨q, hq, by
    have := hle q
    have : (y q).natAbs ≠ 0 := Int.natAbs_ne_zero.2 hyq
    omega⟩
   cases b with
   | zero => omega
   | succ b =>
    exact prim_of hP b (fun j => y j / d) (by omega) (hP y _ d hd0 hy hz) ⟨q, hq, fun e => hyq (by rw [hz q, e, Int.mul_zero])⟩ fun j hj => by rw [h0 j hj]; simp
theorem siegelP {n k : Nat} (M : Mx) (h : n < k) : ∃ y : Nat → Int, (∀ i, i < n → sm k (fun j => M i j * y j) = 0) ∧ (∃ j, j < k ∧ y j ≠ 0) ∧ (∀ j, k ≤ j → y j = 0) ∧ ∀ d : Int, (∀ j, j < k → d ∣ y j) → d ∣ 1 := by
 obtain ⟨y, h1, h2, h3⟩ := siegelF n k M h
 refine prim_of (P := fun y => ∀ i, i < n → sm k (fun j => M i j * y j) = 0) (fun y z d hd hy hz i hi => ?_) _ y (Nat.le_refl _) h3 h2 h1
 have := hy i hi
 rw [sm_congr (g := fun j => d * (M i j * z j)) fun j _ => by rw [hz j, Int.mul_left_comm], sm_mul] at this
 rcases Int.mul_eq_zero.1 this with e | e
 ·exact (hd e).elim
 ·exact e
theorem dvd_prim {k : Nat} {y : Nat → Int} {d e : Int} (hne : ∃ j, j < k ∧ y j ≠ 0) (hp : ∀ g : Int, (∀ j, j < k → g ∣ y j) → g ∣ 1) (h : ∀ j, j < k → d ∣ y j * e) : d ∣ e := by
 by_cases hd : d = 0
 ·subst hd
  obtain ⟨j, hj, hy⟩ := hne
  have := Int.zero_dvd.1 (h j hj)
  rcases Int.mul_eq_zero.1 this with e2 | e2
  ·exact (hy e2).elim
  ·rw [e2]; exact Int.dvd_refl _
 ·have hg : 0 < Nat.gcd d.natAbs e.natAbs := Nat.gcd_pos_of_pos_left _ (Nat.pos_of_ne_zero (Int.natAbs_ne_zero.2 hd))
  have hc := Nat.coprime_div_gcd_div_gcd hg
  have h1 : (((d.natAbs / Nat.gcd d.natAbs e.natAbs : Nat)) : Int) ∣ 1 := hp _ fun j hj => by
   have h2 : d.natAbs ∣ (y j).natAbs * e.natAbs := by rw [← Int.natAbs_mul]; exact Int.natAbs_dvd_natAbs.2 (h j hj)
   have h3 : d.natAbs / Nat.gcd d.natAbs e.natAbs ∣ (y j).natAbs * (e.natAbs / Nat.gcd d.natAbs e.natAbs) := by
    refine (Nat.mul_dvd_mul_iff_right hg).1 ?_
    rw [Nat.div_mul_cancel (Nat.gcd_dvd_left _ _), Nat.mul_assoc, Nat.div_mul_cancel (Nat.gcd_dvd_right _ _)]
    exact h2
   exact Int.natAbs_dvd_natAbs.1 (by rw [Int.natAbs_natCast]; exact hc.dvd_of_dvd_mul_right h3)
  have h4 : d.natAbs / Nat.gcd d.natAbs e.natAbs = 1 := by
   have := Int.natAbs_dvd_natAbs.2 h1
   rw [Int.natAbs_natCast] at this
   exact Nat.dvd_one.1 this
  have h5 : d.natAbs = Nat.gcd d.natAbs e.natAbs := by
   have := Nat.div_mul_cancel (Nat.gcd_dvd_left d.natAbs e.natAbs)
   rw [h4, Nat.one_mul] at this; exact this.symm
  exact Int.natAbs_dvd_natAbs.1 (by rw [h5]; exact Nat.gcd_dvd_right _ _)
def Dg (d : Nat → Int) : Mx := fun i j => if i = j then d i else 0
theorem Dg_self (d : Nat → Int) (i : Nat) : Dg d i i = d i := if_pos rfl
theorem Dg_ne {d : Nat → Int} {i j : Nat} (h : i ≠ j) : Dg d i j = 0 := if_neg h
theorem fct_dvd {R C R' C' : Nat} {d d' : Nat → Int} (hd : ∀ i j, i ≤ j → d i ∣ d j) (hd' : ∀ i j, i ≤ j → d' i ∣ d' j) (h : Fct R' C' (Dg d') R C (Dg d)) {i : Nat} (hi : i < R') (hi' : i < C') : d i ∣ d' i := by
 obtain ⟨A, B, h⟩ := h
 obtain ⟨y, hy, hne, -, hp⟩ := siegelP (n := i) (k := i + 1) (fun a r => A r a) (by omega)
 refine dvd_prim hne hp fun j hj => ?_
 have e1 : sm (i + 1) (fun r => y r * Dg d' r j) = y j * d' j := by
  rw [sm_one hj fun r _ hr => by rw [Dg_ne hr, Int.mul_zero], Dg_self]
 have e2 : sm (i + 1) (fun r => y r * Dg d' r j) = mm C (mm R (mm (i + 1) (fun _ => y) A) (Dg d)) B 0 j := by
  rw [sm_congr (g := fun r => y r * mm C (mm R A (Dg d)) B r j) fun r hr => by rw [h r j (by omega) (by omega)]]
  show mm (i + 1) (fun _ => y) (mm C (mm R A (Dg d)) B) 0 j = _
  rw [← mm_assoc]
  exact mm_congr1 fun q _ => (mm_assoc _ _ _ _ _ _ _).symm
 have e3 : d i ∣ y j * d' j := by
  rw [← e1, e2]
  refine sm_dvd fun b _ => ?_
  refine Int.dvd_trans ?_ (Int.dvd_mul_right _ _)
  refine sm_dvd fun a _ => ?_
  by_cases e : a = b
  ·subst e
   by_cases ha : a < i
   ·have : mm (i + 1) (fun _ => y) A 0 a = 0 := by
     show sm (i + 1) (fun r => y r * A r a) = 0
     rw [← hy a ha]
     exact sm_congr fun r _ => Int.mul_comm _ _
    rw [this, Int.zero_mul]; exact Int.dvd_zero _
   ·rw [Dg_self]
    exact Int.dvd_trans (hd i a (by omega)) (Int.dvd_mul_left _ _)
  ·rw [Dg_ne e, Int.mul_zero]; exact Int.dvd_zero _
 obtain ⟨q, hq⟩ := hd' j i (by omega)
 rw [hq, ← Int.mul_assoc]
 exact Int.dvd_trans e3 (Int.dvd_mul_right _ _)
--END
end Go.Proofs.YtoiblknchcoecaaGreat

namespace Go.Proofs.YtoiblknchcoecaaGreat
--BODY
def Uni (R : Nat) (u : Mx) : Prop := ∃ W : Mx, (∀ i j, i < R → j < R → mm R u W i j = oneM i j) ∧ ∀ i j, i < R → j < R → mm R W u i j = oneM i j
theorem mm_row2 {R : Nat} {E M : Mx} {i a b j : Nat} {x y : Int} (ha : a < R) (hb : b < R) (h : ∀ k, k < R → E i k = x * oneM a k + y * oneM b k) : mm R E M i j = x * M a j + y * M b j := by
 have e1 : mm R oneM M a j = M a j := oneM_mm ha
 have e2 : mm R oneM M b j = M b j := oneM_mm hb
 rw [← e1, ← e2]
 unfold mm
 rw [← sm_mul, ← sm_mul, ← sm_add]
 exact sm_congr fun k hk => by rw [h k hk, Int.add_mul, Int.mul_assoc, Int.mul_assoc]
theorem mm_row1 {R : Nat} {E M : Mx} {i a j : Nat} {x : Int} (ha : a < R) (h : ∀ k, k < R → E i k = x * oneM a k) : mm R E M i j = x * M a j := by
 have := mm_row2 (E := E) (i := i) (M := M) (j := j) (x := x) (y := 0) ha ha fun k hk => by rw [h k hk]; omega
 rw [this]; omega
def eAdd (i p : Nat) (t : Int) : Mx := fun a b => if a = i then oneM i b + t * oneM p b else oneM a b
def eSw (p t : Nat) : Mx := fun a b => if a = p then oneM t b else if a = t then oneM p b else oneM a b
def eNeg (t : Nat) : Mx := fun a b => if a = t then -oneM t b else oneM a b
theorem eAdd_mm {R i p a j : Nat} {t : Int} {M : Mx} (hi : i < R) (hp : p < R) (ha : a < R) : mm R (eAdd i p t) M a j = if a = i then M i j + M p j * t else M a j := by
 by_cases e : a = i
 ·subst e
  rw [if_pos rfl, mm_row2 (a := a) (b := p) (x := 1) (y := t) hi hp fun k _ => by unfold eAdd; rw [if_pos rfl]; omega]
  rw [Int.mul_comm t]; omega
 ·rw [if_neg e, mm_row1 (a := a) (x := 1) ha fun k _ => by unfold eAdd; rw [if_neg e]; omega]; omega
theorem eSw_mm {R p t a j : Nat} {M : Mx} (hp : p < R) (ht : t < R) (ha : a < R) : mm R (eSw p t) M a j = if a = p then M t j else if a = t then M p j else M a j := by
 by_cases e : a = p
 ·subst e; rw [if_pos rfl, mm_row1 (a := t) (x := 1) ht fun k _ => by unfold eSw; rw [if_pos rfl]; omega]; omega
 ·rw [if_neg e]
  by_cases e2 : a = t
  ·subst e2; rw [if_pos rfl, mm_row1 (a := p) (x := 1) hp fun k _ => by unfold eSw; rw [if_neg e, if_pos rfl]; omega]; omega
  ·rw [if_neg e2, mm_row1 (a := a) (x := 1) ha fun k _ => by unfold eSw; rw [if_neg e, if_neg e2]; omega]; omega
theorem eNeg_mm {R t a j : Nat} {M : Mx} (ht : t < R) (ha : a < R) : mm R (eNeg t) M a j = if a = t then -M t j else M a j := by
 by_cases e : a = t
 ·subst e; rw [if_pos rfl, mm_row1 (a := a) (x := -1) ht fun k _ => by unfold eNeg; rw [if_pos rfl]; omega]; omega
 ·rw [if_neg e, mm_row1 (a := a) (x := 1) ha fun k _ => by unfold eNeg; rw [if_neg e]; omega]; omega
theorem eAdd_inv {R i p : Nat} {t : Int} (hi : i < R) (hp : p < R) (hne : i ≠ p) {a j : Nat} (ha : a < R) : mm R (eAdd i p t) (eAdd i p (-t)) a j = oneM a j := by
 rw [eAdd_mm hi hp ha]
 unfold eAdd
 by_cases e : a = i
 ·subst e
  rw [if_pos rfl, if_pos rfl, if_neg (Ne.symm hne), Int.neg_mul, Int.mul_comm t]; omega
 ·rw [if_neg e, if_neg e]
theorem eSw_inv {R p t : Nat} (hp : p < R) (ht : t < R) {a j : Nat} (ha : a < R) : mm R (eSw p t) (eSw p t) a j = oneM a j := by
 rw [eSw_mm hp ht ha]
 unfold eSw
 by_cases e : a = p
 ·subst e; rw [if_pos rfl]
  by_cases e2 : t = a
  ·subst e2; rw [if_pos rfl]
  ·rw [if_neg e2, if_pos rfl]
 ·rw [if_neg e]
  by_cases e2 : a = t
  ·subst e2; rw [if_pos rfl, if_pos rfl]
  ·rw [if_neg e2, if_neg e, if_neg e2]
theorem eNeg_inv {R t : Nat} (ht : t < R) {a j : Nat} (ha : a < R) : mm R (eNeg t) (eNeg t) a j = oneM a j := by
 rw [eNeg_mm ht ha]
 unfold eNeg
 by_cases e : a = t
 ·subst e; rw [if_pos rfl, if_pos rfl]; omega
 ·rw [if_neg e, if_neg e]
theorem Uni.start (R : Nat) : Uni R oneM := ⟨oneM, fun _ _ hi _ => oneM_mm hi, fun _ _ hi _ => oneM_mm hi⟩
theorem Uni.step {R : Nat} {u E E' u' : Mx} (h : Uni R u) (h1 : ∀ i j, i < R → j < R → mm R E E' i j = oneM i j) (h2 : ∀ i j, i < R → j < R → mm R E' E i j = oneM i j) (e : ∀ i j, i < R → j < R → u' i j = mm R E u i j) : Uni R u' := by
 obtain ⟨W, hw1, hw2⟩ := h
 refine ⟨mm R W E', fun i j hi hj => ?_, fun i j hi hj => ?_⟩
 ·rw [mm_congr1 (A' := mm R E u) fun k hk => e i k hi hk, mm_assoc, mm_congr2 (B' := E') fun k hk => ?_]
  ·exact h1 i j hi hj
  ·rw [← mm_assoc, mm_congr1 (A' := oneM) fun q hq => hw1 k q hk hq, oneM_mm hk]
 ·rw [mm_congr2 (B' := mm R E u) fun k hk => e k j hk hj, mm_assoc, mm_congr2 (B' := u) fun k hk => ?_]
  ·exact hw2 i j hi hj
  ·rw [← mm_assoc, mm_congr1 (A' := oneM) fun q hq => h2 k q hk hq, oneM_mm hk]
theorem herm_ind {C R : Nat} {P : HS → Prop} (hadd : ∀ s s' i p t, i < R → p < R → i ≠ p → Hs C R s → add2 C R i p t s = some s' → P s → P s') :
  (∀ {n j p i : Nat} {s s' : HS}, i + n ≤ R → p < R → Hs C R s → P s → pass C R j p n i s = some s' → Hs C R s' ∧ P s') ∧
  (∀ {n j t p p' : Nat} {s s' : HS}, t ≤ R → p < R → Hs C R s → P s → gcdL C R j t n s p = some (s', p') → Hs C R s' ∧ P s' ∧ p' < R) ∧
  (∀ {n j t i : Nat} {s s' : HS}, i + n ≤ t → t < R → Hs C R s → P s → red C R j t n i s = some s' → Hs C R s' ∧ P s') := by
 have hpass : ∀ {n j p i : Nat} {s s' : HS}, i + n ≤ R → p < R → Hs C R s → P s → pass C R j p n i s = some s' → Hs C R s' ∧ P s' := by
  intro n
  induction n with
  | zero => intro j p i s s' _ _ h hP he; obtain rfl := Option.some.inj he; exact ⟨h, hP⟩
  | succ n ih =>
   intro j p i s s' hn hp h hP he
   simp only [pass] at he
   by_cases hc : i ≠ p ∧ cell s.1 C i j ≠ 0
   ·rw [if_pos hc] at he
    cases ha : add2 C R i p (-(cell s.1 C i j / cell s.1 C p j)) s with
    | none => rw [ha] at he; cases he
    | some s1 =>
     rw [ha] at he
     exact ih (by omega) hp (add2_hs h ha).1 (hadd s s1 i p _ (by omega) hp hc.1 h ha hP) (show pass C R j p n (i + 1) s1 = some s' from he)
   ·rw [if_neg hc] at he
    exact ih (by omega) hp h hP he
 refine ⟨hpass, ?_, ?_⟩
 ·intro n
  induction n with
  | zero => intro j t p p' s s' _ _ _ _ he; cases he
  | succ n ih =>
   intro j t p p' s s' ht hp h hP he
   simp only [gcdL] at he
   split at he
   ·obtain ⟨rfl, rfl⟩ := Prod.mk.inj (Option.some.inj he)
    exact ⟨h, hP, hp⟩
   ·cases hq : pass C R j p (R - t) t s with
    | none => rw [hq] at he; cases he
    | some s1 =>
     rw [hq] at he
     obtain ⟨g1, g2⟩ := hpass (by omega) hp h hP hq
     refine ih ht ?_ g1 g2 (show gcdL C R j t n s1 _ = _ from he)
     rcases leastN_spec s1.1 C j t (R - t) with ⟨e, _⟩ | ⟨q, e, _, hlt, _⟩
     ·rw [e]; show 0 < R; omega
     ·rw [e, Int.toNat_natCast]; omega
 ·intro n
  induction n with
  | zero => intro j t i s s' _ _ h hP he; obtain rfl := Option.some.inj he; exact ⟨h, hP⟩
  | succ n ih =>
   intro j t i s s' hn ht h hP he
   simp only [red] at he
   cases ha : add2 C R i t (-(cell s.1 C i j / cell s.1 C t j)) s with
   | none => rw [ha] at he; cases he
   | some s1 =>
    rw [ha] at he
    exact ih (by omega) ht (add2_hs h ha).1 (hadd s s1 i t _ (by omega) ht (by omega) h ha hP) (show red C R j t n (i + 1) s1 = some s' from he)
theorem hLoop_ind {C R : Nat} {P : HS → Prop} (hadd : ∀ s s' i p t, i < R → p < R → i ≠ p → Hs C R s → add2 C R i p t s = some s' → P s → P s') (hsw : ∀ s p t, p < R → t < R → p ≠ t → Hs C R s → P s → P (sw2 C R p t s)) (hneg : ∀ s t, t < R → Hs C R s → P s → P (neg2 C R t s)) :
  ∀ {n j t : Nat} {s s' : HS}, Hs C R s → P s → hLoop C R n j t s = some s' → Hs C R s' ∧ P s'
 | 0, j, t, s, s', h, hP, he => by obtain rfl := Option.some.inj he; exact ⟨h, hP⟩
 | n + 1, j, t, s, s', h, hP, he => by
  obtain ⟨-, hgcd, hred⟩ := herm_ind hadd
  simp only [hLoop] at he
  by_cases hlt : t < R
  ·rw [if_pos hlt] at he
   by_cases hl : leastN s.1 C j t (R - t) < 0
   ·rw [if_pos hl] at he
    exact hLoop_ind hadd hsw hneg h hP he
   ·rw [if_neg hl] at he
    cases hg : gcdA C R j t s (leastN s.1 C j t (R - t)).toNat with
    | none => rw [hg] at he; cases he
    | some r =>
     rw [hg] at he
     obtain ⟨s1, p1⟩ := r
     have hp0 : (leastN s.1 C j t (R - t)).toNat < R := by
      rcases leastN_spec s.1 C j t (R - t) with ⟨e, _⟩ | ⟨q, e, _, hlt, _⟩
      ·omega
      ·rw [e, Int.toNat_natCast]; omega
     obtain ⟨g1, g2, g3⟩ := hgcd (by omega) hp0 h hP hg
     cases hc : colE C R j t p1 s1 with
     | none => simp only [Option.bind_some, hc] at he; cases he
     | some s2 =>
      simp only [Option.bind_some, hc] at he
      obtain ⟨q1, q2⟩ : Hs C R s2 ∧ P s2 := by
       unfold colE at hc
       have a1 : Hs C R (top2 C R p1 t s1) ∧ P (top2 C R p1 t s1) := by
        unfold top2
        split
        ·exact ⟨g1, g2⟩
        ·rename_i e; exact ⟨sw2_hs g1, hsw _ _ _ g3 hlt e g1 g2⟩
       have a2 : Hs C R (pos2 C R j t (top2 C R p1 t s1)) ∧ P (pos2 C R j t (top2 C R p1 t s1)) := by
        unfold pos2
        split
        ·exact ⟨neg2_hs a1.1, hneg _ _ hlt a1.1 a1.2⟩
        ·exact a1
       exact hred (by omega) hlt a2.1 a2.2 hc
      exact hLoop_ind hadd hsw hneg q1 q2 he
  ·rw [if_neg hlt] at he
   obtain rfl := Option.some.inj he
   exact ⟨h, hP⟩
theorem idL_cell {n i j : Nat} (hi : i < n) (hj : j < n) : cell (idL n) n i j = oneM i j := by
 have key : ∀ (k : Nat), k ≤ n → ((List.range k).foldl (fun l i => l.set (i * n + i) 1) (List.replicate (n * n) (0 : Int))).length = n * n ∧ ∀ i j, i < n → j < n → ((List.range k).foldl (fun l i => l.set (i * n + i) 1) (List.replicate (n * n) (0 : Int))).getD (i * n + j) 0 = if i = j ∧ i < k then 1 else 0 := by
  intro k
  induction k with
  | zero =>
   intro _
   refine ⟨by simp, fun i j hi hj => ?_⟩
   rw [if_neg (by omega)]
   simp only [List.range_zero, List.foldl_nil, List.getD_eq_getElem?_getD, List.getElem?_replicate]
   split <;> rfl
  | succ k ih =>
   intro hk
   obtain ⟨h1, h2⟩ := ih (by omega)
   rw [List.range_succ, List.foldl_append]
   refine ⟨by simp only [List.foldl_cons, List.foldl_nil, List.length_set]; exact h1, fun i j hi hj => ?_⟩
   simp only [List.foldl_cons, List.foldl_nil]
   rw [getD_setL (by rw [h1]; exact place_lt (by omega) (by omega)), h2 i j hi hj]
   by_cases e : i * n + j = k * n + k
   ·obtain ⟨rfl, rfl⟩ := place_eq hj (by omega) e
    rw [if_pos rfl, if_pos ⟨rfl, by omega⟩]
   ·rw [if_neg e]
    have : (i = j ∧ i < k + 1) ↔ (i = j ∧ i < k) := by
     constructor
     ·rintro ⟨h3, h4⟩
      refine ⟨h3, ?_⟩
      have : i ≠ k := fun e2 => e (by subst e2; subst h3; rfl)
      omega
     ·rintro ⟨h3, h4⟩; exact ⟨h3, by omega⟩
    simp only [this]
 have := (key n (Nat.le_refl _)).2 i j hi hj
 unfold cell idL
 rw [this]
 unfold oneM
 by_cases e : i = j
 ·rw [if_pos ⟨e, hi⟩, if_pos e]
 ·rw [if_neg (fun h => e h.1), if_neg e]
theorem herm_fact {m : List Int} {R C : Nat} (hl : m.length = R * C) (hm : NumL m) {s : HS} (h : herm m R C = some s) :
  (∀ i j, i < R → j < C → cell s.1 C i j = mm R (cell s.2 R) (cell m C) i j) ∧ Uni R (cell s.2 R) := by
 refine (hLoop_ind (P := fun s => (∀ i j, i < R → j < C → cell s.1 C i j = mm R (cell s.2 R) (cell m C) i j) ∧ Uni R (cell s.2 R)) ?_ ?_ ?_ ⟨hl, idL_len R, hm, idL_num R⟩ ⟨fun i j hi hj => ?_, ?_⟩ h).2
 ·rintro s s' i p t hi hp hne hs ha ⟨h1, h2⟩
  have e := (add2_hs hs ha).2
  have c2 : ∀ a j, a < R → j < R → cell s'.2 R a j = mm R (eAdd i p t) (cell s.2 R) a j := fun a j ha' hj => by
   rw [e]; show cell (addR s.2 R i p t) R a j = _; rw [cell_addR hs.lu hi hj, eAdd_mm hi hp ha']
  refine ⟨fun a j ha' hj => ?_, h2.step (E := eAdd i p t) (E' := eAdd i p (-t)) (fun a j ha' _ => eAdd_inv hi hp hne ha') (fun a j ha' _ => by have := eAdd_inv (R := R) (t := -t) hi hp hne (j := j) ha'; rwa [Int.neg_neg] at this) c2⟩
  rw [mm_congr1 (A' := mm R (eAdd i p t) (cell s.2 R)) fun k hk => c2 a k ha' hk, mm_assoc, mm_congr2 (B' := cell s.1 C) fun k hk => (h1 k j hk hj).symm, eAdd_mm hi hp ha', e]
  exact cell_addR hs.la hi hj
 ·rintro s p t hp ht hne hs ⟨h1, h2⟩
  have c2 : ∀ a j, a < R → j < R → cell (swR s.2 R p t) R a j = mm R (eSw p t) (cell s.2 R) a j := fun a j ha' hj => by
   rw [cell_swR hs.lu hp ht hne hj, eSw_mm hp ht ha']
  refine ⟨fun a j ha' hj => ?_, h2.step (E := eSw p t) (E' := eSw p t) (fun a j ha' _ => eSw_inv hp ht ha') (fun a j ha' _ => eSw_inv hp ht ha') c2⟩
  show cell (swR s.1 C p t) C a j = mm R (cell (swR s.2 R p t) R) (cell m C) a j
  rw [mm_congr1 (A' := mm R (eSw p t) (cell s.2 R)) fun k hk => c2 a k ha' hk, mm_assoc, mm_congr2 (B' := cell s.1 C) fun k hk => (h1 k j hk hj).symm, eSw_mm hp ht ha']
  exact cell_swR hs.la hp ht hne hj
 ·rintro s t ht hs ⟨h1, h2⟩
  have c2 : ∀ a j, a < R → j < R → cell (negR s.2 R t) R a j = mm R (eNeg t) (cell s.2 R) a j := fun a j ha' hj => by
   rw [cell_negR hs.lu ht hj, eNeg_mm ht ha']
  refine ⟨fun a j ha' hj => ?_, h2.step (E := eNeg t) (E' := eNeg t) (fun a j ha' _ => eNeg_inv ht ha') (fun a j ha' _ => eNeg_inv ht ha') c2⟩
  show cell (negR s.1 C t) C a j = mm R (cell (negR s.2 R t) R) (cell m C) a j
  rw [mm_congr1 (A' := mm R (eNeg t) (cell s.2 R)) fun k hk => c2 a k ha' hk, mm_assoc, mm_congr2 (B' := cell s.1 C) fun k hk => (h1 k j hk hj).symm, eNeg_mm ht ha']
  exact cell_negR hs.la ht hj
 ·show cell m C i j = mm R (cell (idL R) R) (cell m C) i j
  rw [mm_congr1 (A' := oneM) fun k hk => idL_cell hi hk, oneM_mm hi]
 ·exact (Uni.start R).step (E := oneM) (E' := oneM) (fun i j hi _ => oneM_mm hi) (fun i j hi _ => oneM_mm hi) fun i j hi hj => by
   show cell (idL R) R i j = _
   rw [oneM_mm hi, idL_cell hi hj]
--END
end Go.Proofs.YtoiblknchcoecaaGreat
