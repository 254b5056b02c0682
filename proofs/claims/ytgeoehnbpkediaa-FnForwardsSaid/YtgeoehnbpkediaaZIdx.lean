/-
  Indices of lattices, by counting classes. Plain Lean, no program.
-/
import Derived.Test.YtgeoehnbpkediaaZSum
set_option maxHeartbeats 8000000
set_option maxRecDepth 100000
namespace Go.Proofs.Ytgeoehnbpkediaa
theorem pigeon : ∀ (M N : Nat) (g : Nat → Nat), (∀ i, i < N → g i < M) → (∀ i k, i < N → k < N → g i = g k → i = k) → N ≤ M
 | 0, N, g, h1, _ => by
  cases N with
  | zero => exact Nat.le_refl _
  | succ N => exact absurd (h1 0 (by omega)) (by omega)
 | M + 1, N, g, h1, h2 => by
  by_cases h : ∃ i, i < N ∧ g i = M
  ·obtain ⟨p, hp, hpM⟩ := h
   have := pigeon M (N - 1) (fun i => g (if i < p then i else i + 1)) (fun i hi => by
    have h3 := h1 (if i < p then i else i + 1) (by split <;> omega)
    have h4 : g (if i < p then i else i + 1) ≠ M := fun e => by
     have := h2 _ p (by split <;> omega) hp (e.trans hpM.symm)
     split at this <;> omega
    show g (if i < p then i else i + 1) < M
    omega) (fun i k hi hk e => by
    have := h2 _ _ (by split <;> omega) (by split <;> omega) e
    split at this <;> split at this <;> omega)
   omega
  ·have := pigeon M N g (fun i hi => by
    have h3 := h1 i hi
    have h4 : g i ≠ M := fun e => h ⟨i, hi, e⟩
    omega) h2
   omega
abbrev Vc := Nat → Int
structure Lt (L : Vc → Prop) : Prop where
 zero : L fun _ => 0
 add : ∀ v w, L v → L w → L fun j => v j + w j
 neg : ∀ v, L v → L fun j => -v j
theorem Lt.sub {L : Vc → Prop} (h : Lt L) {v w : Vc} (hv : L v) (hw : L w) : L fun j => v j - w j := by
 have := h.add _ _ hv (h.neg _ hw)
 simpa [Int.sub_eq_add_neg] using this
def Ix (K L : Vc → Prop) (N : Nat) : Prop := ∃ f : Nat → Vc, (∀ i, i < N → K (f i)) ∧ (∀ v, K v → ∃ i, i < N ∧ L fun j => v j - f i j) ∧ ∀ i k, i < N → k < N → (L fun j => f i j - f k j) → i = k
theorem Ix.le {K L : Vc → Prop} (hL : Lt L) {N M : Nat} (h : Ix K L N) (h' : Ix K L M) : N ≤ M := by
 obtain ⟨f, f1, f2, f3⟩ := h
 obtain ⟨g, g1, g2, g3⟩ := h'
 let q : Nat → Nat := fun i => if hi : i < N then (g2 (f i) (f1 i hi)).choose else 0
 have hq : ∀ i, i < N → q i < M ∧ L fun j => f i j - g (q i) j := fun i hi => by
  have := (g2 (f i) (f1 i hi)).choose_spec
  simp only [q, dif_pos hi]
  exact this
 refine pigeon M N q (fun i hi => (hq i hi).1) fun i k hi hk e => f3 i k hi hk ?_
 have h1 := (hq i hi).2
 have h2 := (hq k hk).2
 rw [← e] at h2
 have := hL.sub h1 h2
 have h3 : (fun j => f i j - g (q i) j - (f k j - g (q i) j)) = fun j => f i j - f k j := by funext j; omega
 rw [h3] at this
 exact this
theorem Ix.same {K L : Vc → Prop} (hL : Lt L) {N M : Nat} (h : Ix K L N) (h' : Ix K L M) : N = M := Nat.le_antisymm (h.le hL h') (h'.le hL h)
theorem Ix.tower {J K L : Vc → Prop} (hK : Lt K) (hLK : ∀ v, L v → K v) (hKJ : ∀ v, K v → J v) (hJ : Lt J) {N M : Nat} (h : Ix J K N) (h' : Ix K L M) : Ix J L (N * M) := by
 obtain ⟨f, f1, f2, f3⟩ := h
 obtain ⟨g, g1, g2, g3⟩ := h'
 refine ⟨fun x j => f (x / M) j + g (x % M) j, fun x hx => ?_, fun v hv => ?_, fun x y hx hy e => ?_⟩
 ·have hM : 0 < M := Nat.pos_of_ne_zero fun e => by rw [e] at hx; simp at hx
  exact hJ.add _ _ (f1 _ (Nat.div_lt_of_lt_mul (by rw [Nat.mul_comm]; exact hx))) (hKJ _ (g1 _ (Nat.mod_lt _ hM)))
 ·obtain ⟨i, hi, h1⟩ := f2 v hv
  obtain ⟨k, hk, h2⟩ := g2 _ h1
  refine ⟨i * M + k, ?_, ?_⟩
  ·have : (i + 1) * M ≤ N * M := Nat.mul_le_mul_right _ hi
   rw [Nat.add_mul] at this; omega
  ·have e1 : (i * M + k) / M = i := by rw [Nat.mul_comm, Nat.mul_add_div (by omega), Nat.div_eq_of_lt hk]; rfl
   have e2 : (i * M + k) % M = k := by rw [Nat.mul_comm, Nat.mul_add_mod, Nat.mod_eq_of_lt hk]
   simp only [e1, e2]
   have h3 : (fun j => v j - f i j - g k j) = fun j => v j - (f i j + g k j) := by funext j; omega
   rw [h3] at h2
   exact h2
 ·have hM : 0 < M := Nat.pos_of_ne_zero fun e => by rw [e] at hx; simp at hx
  have b1 := Nat.mod_lt x hM
  have b2 := Nat.mod_lt y hM
  have e1 : x / M = y / M := by
   refine f3 _ _ (Nat.div_lt_of_lt_mul (by rw [Nat.mul_comm]; exact hx)) (Nat.div_lt_of_lt_mul (by rw [Nat.mul_comm]; exact hy)) ?_
   have h1 := hK.sub (hLK _ e) (hK.sub (g1 _ b1) (g1 _ b2))
   have h3 : (fun j => f (x / M) j + g (x % M) j - (f (y / M) j + g (y % M) j) - (g (x % M) j - g (y % M) j)) = fun j => f (x / M) j - f (y / M) j := by funext j; omega
   rw [h3] at h1
   exact h1
  have e2 : x % M = y % M := by
   refine g3 _ _ b1 b2 ?_
   simp only [e1] at e
   have h3 : (fun j => f (y / M) j + g (x % M) j - (f (y / M) j + g (y % M) j)) = fun j => g (x % M) j - g (y % M) j := by funext j; omega
   rw [h3] at e
   exact e
  have d1 := Nat.div_add_mod x M
  have d2 := Nat.div_add_mod y M
  rw [e1, e2] at d1
  omega
def Dv (d : Nat → Int) (n : Nat) : Vc → Prop := fun v => ∀ j, j < n → d j ∣ v j
theorem Dv.lt {d : Nat → Int} {n : Nat} : Lt (Dv d n) :=
 ⟨fun _ _ => Int.dvd_zero _, fun _ _ hv hw j hj => Int.dvd_add (hv j hj) (hw j hj), fun _ hv j hj => Int.dvd_neg.2 (hv j hj)⟩
def pdN (d : Nat → Int) : Nat → Nat
 | 0 => 1
 | n + 1 => pdN d n * (d n).toNat
theorem Ix.dv_one {d : Nat → Int} {n : Nat} (hd : 0 < d n) : Ix (Dv d n) (Dv d (n + 1)) (d n).toNat := by
 refine ⟨fun i j => if j = n then (i : Int) else 0, fun i _ j hj => ?_, fun v hv => ?_, fun i k hi hk e => ?_⟩
 ·show d j ∣ (if j = n then (i : Int) else 0)
  rw [if_neg (by omega)]; exact Int.dvd_zero _
 ·have h0 := Int.emod_nonneg (v n) (show d n ≠ 0 by omega)
  have h1 := Int.emod_lt_of_pos (v n) hd
  refine ⟨(v n % d n).toNat, by omega, fun j hj => ?_⟩
  show d j ∣ v j - (if j = n then (((v n % d n).toNat : Nat) : Int) else 0)
  by_cases e : j = n
  ·subst e
   rw [if_pos rfl, Int.toNat_of_nonneg h0]
   exact Int.dvd_self_sub_emod
  ·rw [if_neg e, Int.sub_zero]
   exact hv j (by omega)
 ·have h := e n (by omega)
  simp only [if_true] at h
  have h3 : (i : Int) % d n = (k : Int) % d n := Int.emod_eq_emod_iff_emod_sub_eq_zero.2 (Int.emod_eq_zero_of_dvd h)
  rw [Int.emod_eq_of_lt (by omega) (by omega), Int.emod_eq_of_lt (by omega) (by omega)] at h3
  omega
theorem Ix.dv {d : Nat → Int} (hd : ∀ j, 0 < d j) : ∀ n, Ix (fun _ => True) (Dv d n) (pdN d n)
 | 0 => ⟨fun _ _ => 0, fun _ _ => trivial, fun v _ => ⟨0, Nat.one_pos, fun j hj => by omega⟩, fun i k hi hk _ => by simp only [pdN] at hi hk; omega⟩
 | n + 1 => Ix.tower Dv.lt (fun v hv j hj => hv j (by omega)) (fun _ _ => trivial) ⟨trivial, fun _ _ _ _ => trivial, fun _ _ => trivial⟩ (Ix.dv hd n) (Ix.dv_one (hd n))
end Go.Proofs.Ytgeoehnbpkediaa
