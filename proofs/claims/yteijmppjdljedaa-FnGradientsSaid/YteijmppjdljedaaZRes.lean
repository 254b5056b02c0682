/-
  Residues of a prime: plain (primes, inverses by Euclid, the echelon form's rank).
-/
import Derived.Test.YteijmppjdljedaaZHermF
import Derived.Test.YteijmppjdljedaaZInts
import Derived.Test.YteijmppjdljedaaZBase
import Derived.Test.YteijmppjdljedaaZStack
namespace Go.Proofs.Yteijmppjdljedaa
open Go.RowKit

/-! ### Primes -/
def prB (p : Int) : Bool := inB p 2 10000 && (List.range 99).all fun i => !decide (((i : Int) + 2) * ((i : Int) + 2) ≤ p) || p.tmod ((i : Int) + 2) != 0
theorem prB_in {p : Int} (h : inB p 2 10000 = false) : prB p = false := by unfold prB; rw [h]; rfl
theorem prB_rng {p : Int} (h : prB p = true) : 2 ≤ p ∧ p ≤ 10000 := by
  unfold prB at h
  rw [Bool.and_eq_true] at h
  exact inB_iff.1 h.1
theorem prB_no {p : Int} {d : Nat} (h1 : 2 ≤ d) (h2 : (d : Int) * d ≤ p) (hp : p ≤ 10000) (h3 : p.tmod d = 0) : prB p = false := by
  have hd : d ≤ 100 := by
    rcases Nat.lt_or_ge 100 d with h | h
    · have := Nat.mul_le_mul (show 101 ≤ d from h) (show 101 ≤ d from h)
      have h4 : ((d * d : Nat) : Int) = (d : Int) * d := by simp
      omega
    · exact h
  rw [Bool.eq_false_iff]
  intro e
  unfold prB at e
  rw [Bool.and_eq_true, List.all_eq_true] at e
  have := e.2 (d - 2) (List.mem_range.2 (by omega))
  rw [show ((d - 2 : Nat) : Int) + 2 = (d : Int) by omega] at this
  rw [h3, decide_eq_true h2] at this
  simp at this
theorem prB_yes {p : Int} {d : Nat} (h1 : inB p 2 10000 = true) (h2 : ¬ (d : Int) * d ≤ p) (h3 : ∀ i : Nat, i + 2 < d → p.tmod ((i : Int) + 2) ≠ 0) : prB p = true := by
  unfold prB
  rw [h1, Bool.true_and, List.all_eq_true]
  intro i _
  by_cases h : i + 2 < d
  · have := h3 i h
    simp [this]
  · have h4 : d * d ≤ (i + 2) * (i + 2) := Nat.mul_le_mul (by omega) (by omega)
    have h5 : ((d * d : Nat) : Int) = (d : Int) * d := by simp
    have h6 : (((i + 2) * (i + 2) : Nat) : Int) = ((i : Int) + 2) * ((i : Int) + 2) := by simp
    rw [decide_eq_false (by omega)]; rfl

/-! ### Residues -/
theorem mod_rng {a p : Int} (hp : 2 ≤ p) : 0 ≤ a % p ∧ a % p < p := ⟨Int.emod_nonneg _ (by omega), Int.emod_lt_of_pos _ (by omega)⟩
theorem mod_neg {a p : Int} (hp : 2 ≤ p) (h : a.tmod p < 0) : a.tmod p + p = a % p := by
  have := (tmod_neg (by omega) h).2
  omega
theorem mod_pos {a p : Int} (hp : 2 ≤ p) (h : ¬ a.tmod p < 0) : a.tmod p = a % p := (tmod_pos (by omega) (by omega)).2
theorem mod_two {a p : Int} (hp : 2 ≤ p) : (a.tmod p + p) % p = a % p := by
  by_cases h : a.tmod p < 0
  · rw [mod_neg hp h, Int.emod_emod]
  · rw [mod_pos hp h, Int.add_emod_right, Int.emod_emod]
theorem mod_small {a p : Int} (h0 : 0 ≤ a) (h : a < p) : a % p = a := Int.emod_eq_of_lt h0 h
theorem tmod_lt {a p : Int} (hp : 2 ≤ p) : -p ≤ a.tmod p ∧ a.tmod p < p := by
  have hr := mod_rng (a := a) hp
  by_cases h : a.tmod p < 0
  · have := mod_neg hp h; omega
  · have := mod_pos hp h; omega

/-! ### Euclid -/
def egN (g h : Int) : Int := wrap64 (g - wrap64 (g / h * h))
def egU (x u q : Int) : Int := wrap64 (x - wrap64 (q * u))
def egL : Nat → Int → Int → Int → Int → Int
  | 0, _, _, x, _ => x
  | n + 1, g, h, x, u => if h = 0 then x else egL n h (egN g h) u (egU x u (g / h))
theorem egL_end (n : Nat) (g x u : Int) : egL n g 0 x u = x := by
  cases n with
  | zero => rfl
  | succ n => simp only [egL]; rw [if_pos trivial]
theorem egL_step {n : Nat} {g h x u : Int} (h0 : h ≠ 0) : egL (n + 1) g h x u = egL n h (egN g h) u (egU x u (g / h)) := by simp only [egL]; rw [if_neg h0]
theorem egN_eq {g h : Int} (hg : 0 ≤ g ∧ g ≤ 10000) (hh : 0 < h ∧ h ≤ 10000) : egN g h = g % h ∧ 0 ≤ g / h ∧ g / h ≤ 10000 := by
  have h2 := Int.emod_add_mul_ediv g h
  have h3 : 0 ≤ g / h := Int.ediv_nonneg hg.1 (by omega)
  have h4 : g / h ≤ g := Int.ediv_le_self _ hg.1
  have h5 := Int.emod_nonneg g (show h ≠ 0 by omega)
  have h6 : g / h * h = g - g % h := by rw [Int.mul_comm]; omega
  refine ⟨?_, by omega, by omega⟩
  unfold egN
  rw [h6]
  have h7 := Int.emod_lt_of_pos g hh.1
  unfold wrap64
  omega
theorem egN_rng {g h : Int} (hg : 0 ≤ g ∧ g ≤ 10000) (hh : 0 < h ∧ h ≤ 10000) : 0 ≤ egN g h ∧ egN g h < h := by
  rw [(egN_eq hg hh).1]
  exact ⟨Int.emod_nonneg _ (by omega), Int.emod_lt_of_pos _ hh.1⟩
theorem egU_rng (x u q : Int) : I64 (egU x u q) := by unfold egU wrap64 I64; omega
/-- The inverse of a. -/
def invX (a p : Int) : Int := egL (p.toNat + 1) a p 1 0 % p

/-! ### The echelon form -/
def ResL (p : Int) (m : List Int) : Prop := ∀ x ∈ m, 0 ≤ x ∧ x < p
theorem ResL.getD {p : Int} {m : List Int} (hp : 2 ≤ p) (h : ResL p m) (i : Nat) : 0 ≤ m.getD i 0 ∧ m.getD i 0 < p := by
  by_cases hi : i < m.length
  · have e : m.getD i 0 = m[i] := by simp [List.getD, List.getElem?_eq_getElem hi]
    rw [e]; exact h _ (List.getElem_mem hi)
  · have e : m.getD i 0 = 0 := by simp [List.getD, List.getElem?_eq_none (show m.length ≤ i by omega)]
    rw [e]; omega
theorem res_cell {p : Int} {m : List Int} (hp : 2 ≤ p) (h : ResL p m) (C i j : Nat) : 0 ≤ cell m C i j ∧ cell m C i j < p := h.getD hp _
theorem res_num {p : Int} {m : List Int} (hp : p ≤ 10000) (h : ResL p m) : NumL m := fun x hx => by have := h x hx; omega
theorem res_updR {p : Int} {f : Nat → Int} {o : Nat} (hf : ∀ k, 0 ≤ f k ∧ f k < p) {k : Nat} {m : List Int} (h : ResL p m) : ResL p (updR f o k m) := fun x hx => by
  rcases updR_mem hx with hx | ⟨i, _, rfl⟩
  · exact h x hx
  · exact hf i
theorem res_swN {p : Int} {m : List Int} {C a b : Nat} (hp : 2 ≤ p) (h : ResL p m) : ∀ k, ResL p (swN m C a b k)
  | 0 => h
  | k + 1 => fun x hx => by
    rcases List.mem_or_eq_of_mem_set hx with hx | rfl
    · rcases List.mem_or_eq_of_mem_set hx with hx | rfl
      · exact res_swN hp h k x hx
      · exact res_cell hp h C b k
    · exact res_cell hp h C a k
theorem updR_same {f : Nat → Int} {o : Nat} {m : List Int} : ∀ {k : Nat}, (∀ i, i < k → f i = m.getD (o + i) 0) → o + k ≤ m.length → updR f o k m = m
  | 0, _, _ => rfl
  | k + 1, h, hl => by
    simp only [updR]
    rw [updR_same (k := k) (fun i hi => h i (by omega)) (by omega), h k (by omega)]
    apply List.ext_getElem?
    intro i
    rw [List.getElem?_set]
    by_cases e : o + k = i
    · subst e; rw [if_pos rfl, if_pos (by omega)]; simp [List.getD, List.getElem?_eq_getElem (show o + k < m.length by omega)]
    · rw [if_neg e]
def elK (m : List Int) (C j : Nat) : Nat → Nat → Nat
  | 0, k => k
  | n + 1, k => if cell m C k j = 0 then elK m C j n (k + 1) else k
theorem elK_zero {m : List Int} {C j n k : Nat} (h : cell m C k j = 0) : elK m C j (n + 1) k = elK m C j n (k + 1) := by simp only [elK]; rw [if_pos h]
theorem elK_hit {m : List Int} {C j n k : Nat} (h : cell m C k j ≠ 0) : elK m C j n k = k := by
  cases n with
  | zero => rfl
  | succ n => simp only [elK]; rw [if_neg h]
def elV1 (m : List Int) (C t : Nat) (x p : Int) (c : Nat) : Int := (cell m C t c * x) % p
def elV2 (m : List Int) (C i j t : Nat) (p : Int) (c : Nat) : Int := (cell m C i c - cell m C i j * cell m C t c) % p
def elM1 (m : List Int) (C t k : Nat) : List Int := if k = t then m else swR m C k t
def elM2 (m : List Int) (C t j : Nat) (p : Int) : List Int := updR (elV1 m C t (invX (cell m C t j) p) p) (t * C) C m
def elR (p : Int) (C j t : Nat) : Nat → List Int → List Int
  | 0, m => m
  | n + 1, m => if n = t then elR p C j t n m else updR (elV2 (elR p C j t n m) C n j t p) (n * C) C (elR p C j t n m)
def elS (p : Int) (C R j t k : Nat) (m : List Int) : List Int := elR p C j t R (elM2 (elM1 m C t k) C t j p)
def elN (p : Int) (C R : Nat) : Nat → Nat → Nat → List Int → Nat
  | 0, _, t, _ => t
  | n + 1, j, t, m => if t < R then (if elK m C j (R - t) t = R then elN p C R n (j + 1) t m else elN p C R n (j + 1) (t + 1) (elS p C R j t (elK m C j (R - t) t) m)) else t
theorem elN_full {p : Int} {C R n j t : Nat} {m : List Int} (h : ¬ t < R) : elN p C R n j t m = t := by
  cases n with
  | zero => rfl
  | succ n => simp only [elN]; rw [if_neg h]
theorem elN_skip {p : Int} {C R n j t k : Nat} {m : List Int} (h : t < R) (hk : k = elK m C j (R - t) t) (hR : k = R) : elN p C R (n + 1) j t m = elN p C R n (j + 1) t m := by
  simp only [elN]; rw [if_pos h, if_pos (by rw [← hk]; exact hR)]
theorem elN_step {p : Int} {C R n j t k : Nat} {m : List Int} (h : t < R) (hk : k = elK m C j (R - t) t) (hR : k ≠ R) : elN p C R (n + 1) j t m = elN p C R n (j + 1) (t + 1) (elS p C R j t k m) := by
  simp only [elN]; rw [if_pos h, if_neg (by rw [← hk]; exact hR), ← hk]
theorem elV1_rng {m : List Int} {C t : Nat} {x p : Int} (hp : 2 ≤ p) (c : Nat) : 0 ≤ elV1 m C t x p c ∧ elV1 m C t x p c < p := mod_rng hp
theorem elV2_rng {m : List Int} {C i j t : Nat} {p : Int} (hp : 2 ≤ p) (c : Nat) : 0 ≤ elV2 m C i j t p c ∧ elV2 m C i j t p c < p := mod_rng hp
theorem elM1_res {m : List Int} {C t k : Nat} {p : Int} (hp : 2 ≤ p) (h : ResL p m) : ResL p (elM1 m C t k) := by
  unfold elM1; split
  · exact h
  · exact res_swN hp h C
theorem elM1_len (m : List Int) (C t k : Nat) : (elM1 m C t k).length = m.length := by
  unfold elM1; split
  · rfl
  · exact swN_len ..
theorem elM2_res {m : List Int} {C t j : Nat} {p : Int} (hp : 2 ≤ p) (h : ResL p m) : ResL p (elM2 m C t j p) := res_updR (elV1_rng hp) h
theorem elM2_len (m : List Int) (C t j : Nat) (p : Int) : (elM2 m C t j p).length = m.length := updR_len ..
theorem elR_res {C j t : Nat} {p : Int} (hp : 2 ≤ p) {m : List Int} (h : ResL p m) : ∀ n, ResL p (elR p C j t n m)
  | 0 => h
  | n + 1 => by
    simp only [elR]; split
    · exact elR_res hp h n
    · exact res_updR (elV2_rng hp) (elR_res hp h n)
theorem elR_len (p : Int) (C j t : Nat) (m : List Int) : ∀ n, (elR p C j t n m).length = m.length
  | 0 => rfl
  | n + 1 => by
    simp only [elR]; split
    · exact elR_len p C j t m n
    · rw [updR_len, elR_len p C j t m n]
theorem elR_self {p : Int} {C j t n : Nat} {m : List Int} (h : n = t) : elR p C j t (n + 1) m = elR p C j t n m := by simp only [elR]; rw [if_pos h]
theorem elR_upd {p : Int} {C j t n : Nat} {m : List Int} (h : n ≠ t) : elR p C j t (n + 1) m = updR (elV2 (elR p C j t n m) C n j t p) (n * C) C (elR p C j t n m) := by simp only [elR]; rw [if_neg h]
theorem elR_null {p : Int} {C R j t n : Nat} {m : List Int} (hp : 2 ≤ p) (hm : ResL p m) (hl : m.length = R * C) (hn : n < R) (h : n ≠ t) (h0 : cell (elR p C j t n m) C n j = 0) : elR p C j t (n + 1) m = elR p C j t n m := by
  rw [elR_upd h]
  refine updR_same (fun i hi => ?_) ?_
  · unfold elV2
    rw [h0, Int.zero_mul, Int.sub_zero]
    have := res_cell hp (elR_res (C := C) (j := j) (t := t) hp hm n) C n i
    rw [mod_small this.1 this.2]; rfl
  · rw [elR_len, hl]
    have : (n + 1) * C ≤ R * C := Nat.mul_le_mul_right _ hn
    rw [Nat.add_mul] at this; omega
/-! ### What ReduceMod and RankMod answer -/
def redL (p : Int) (m : List Int) : List Int := updR (fun k => m.getD k 0 % p) 0 m.length m
theorem redL_len (p : Int) (m : List Int) : (redL p m).length = m.length := updR_len ..
theorem redL_res {p : Int} (hp : 2 ≤ p) (m : List Int) : ResL p (redL p m) := fun x hx => by
  obtain ⟨j, hj, rfl⟩ := List.mem_iff_getElem.1 hx
  have hj2 : j < m.length := by rw [redL_len] at hj; exact hj
  have e : (redL p m)[j] = (redL p m).getD j 0 := by simp [List.getD, List.getElem?_eq_getElem hj]
  rw [e]
  unfold redL
  rw [updR_getD (by omega), if_pos (by omega), Nat.sub_zero]
  exact mod_rng hp
def rkOk (m : Mat) (p : Int) : Bool := prB p && isMatB m
def rkN (m : Mat) (p : Int) : Nat := if rkOk m p = true then elN p m.cols.toNat m.rows.toNat m.cols.toNat 0 0 (redL p m.cells) else 0
end Go.Proofs.Yteijmppjdljedaa

namespace Go.Proofs.Yteijmppjdljedaa
open Go.RowKit

theorem results_tmp4 {fn : Func} {t u v x : Tmp} (h : fn.results = #[.tmp t, .tmp u, .tmp v, .tmp x]) (tmps : Array Value) (P : Program) (w : World) :
    (results fn tmps).run P w = .ok (.tuple #[tmps.getD t undef, tmps.getD u undef, tmps.getD v undef, tmps.getD x undef]) w := by
  simp [results, h]
end Go.Proofs.Yteijmppjdljedaa

namespace Go.Proofs.Yteijmppjdljedaa
open Go.RowKit

def redB (m : Mat) (p : Int) : Mat := if rkOk m p = true then { rows := m.rows, cols := m.cols, cells := redL p m.cells } else { rows := 0, cols := 0, cells := [] }
theorem red_no {m : Mat} {p : Int} (h : rkOk m p = false) : rkOk m p = false ∧ redB m p = { rows := 0, cols := 0, cells := [] } := by unfold redB; rw [h]; exact ⟨rfl, rfl⟩
theorem red_yes {m : Mat} {p : Int} (h : rkOk m p = true) : rkOk m p = true ∧ redB m p = { rows := m.rows, cols := m.cols, cells := redL p m.cells } := by unfold redB; rw [h]; exact ⟨rfl, rfl⟩
theorem rk_p {m : Mat} {p : Int} (h : prB p = false) : rkOk m p = false := by unfold rkOk; rw [h]; rfl
theorem rk_m {m : Mat} {p : Int} (h : isMatB m = false) : rkOk m p = false := by unfold rkOk; rw [h]; simp
theorem rk_yes {m : Mat} {p : Int} (h1 : prB p = true) (h2 : isMatB m = true) : rkOk m p = true := by unfold rkOk; rw [h1, h2]; rfl
end Go.Proofs.Yteijmppjdljedaa

namespace Go.Proofs.Yteijmppjdljedaa
open Go.RowKit

theorem egL_rng : ∀ {n : Nat} {g h x u : Int}, I64 x → I64 u → I64 (egL n g h x u)
  | 0, _, _, _, _, hx, _ => hx
  | n + 1, g, h, x, u, hx, hu => by
    simp only [egL]; split
    · exact hx
    · exact egL_rng hu (egU_rng _ _ _)
def cellN (w : World) (p : Addr) : Nat := match w.cell? p with
  | some (.int _ h) => h.toNat
  | _ => 0
end Go.Proofs.Yteijmppjdljedaa
