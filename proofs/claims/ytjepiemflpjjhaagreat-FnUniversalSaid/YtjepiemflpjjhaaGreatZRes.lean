/-
  Residues of a prime: plain (primes, inverses by Euclid, the echelon form's rank).
-/
import Derived.Test.YtjepiemflpjjhaaGreatZHermF
import Derived.Test.YtjepiemflpjjhaaGreatZInts
import Derived.Test.YtjepiemflpjjhaaGreatZBase
import Derived.Test.YtjepiemflpjjhaaGreatZStack
set_option maxHeartbeats 8000000
set_option maxRecDepth 100000
namespace Go.Proofs.YtjepiemflpjjhaaGreat
open Go.RowKit
def prB (p : Int) : Bool := inB p 2 10000 && (List.range 99).all fun i => !decide (((i : Int) + 2) * ((i : Int) + 2) ≤ p) || p.tmod ((i : Int) + 2) != 0
theorem prB_in {p : Int} (h : inB p 2 10000 = false) : prB p = false := by unfold prB; rw [h]; rfl
theorem prB_rng {p : Int} (h : prB p = true) : 2 ≤ p ∧ p ≤ 10000 := by
 unfold prB at h
 rw [Bool.and_eq_true] at h
 exact inB_iff.1 h.1
theorem prB_no {p : Int} {d : Nat} (h1 : 2 ≤ d) (h2 : (d : Int) * d ≤ p) (hp : p ≤ 10000) (h3 : p.tmod d = 0) : prB p = false := by
 have hd : d ≤ 100 := by
  rcases Nat.lt_or_ge 100 d with h | h
  ·have := Nat.mul_le_mul (show 101 ≤ d from h) (show 101 ≤ d from h)
   have h4 : ((d * d : Nat) : Int) = (d : Int) * d := by simp
   omega
  ·exact h
 rw [Bool.eq_false_iff]
 intro e
 unfold prB at e
 rw [Bool.and_eq_true, List.all_eq_true] at e
 have := e.2 (d - 2) (List.mem_range.2 (by omega))
 rw [show ((d - 2 : Nat) : Int) + 2 = (d : Int) by omega] at this
 rw [h3, decide_eq_true h2] at this
 simp at this
theorem prB_yes {p : Int} {d : Nat} (h1 : inB p 2 10000 = true) (h2 : ¬ (d : Int) * d ≤ p) (h3 : ∀ i : Nat, i + 2 < d → p.tmod ((i : Int) + 2) ≠ 0) : prB p = true := by
 unfold prB
 rw [h1, Bool.true_and, List.all_eq_true]
 intro i _
 by_cases h : i + 2 < d
 ·have := h3 i h
  simp [this]
 ·have h4 : d * d ≤ (i + 2) * (i + 2) := Nat.mul_le_mul (by omega) (by omega)
  have h5 : ((d * d : Nat) : Int) = (d : Int) * d := by simp
  have h6 : (((i + 2) * (i + 2) : Nat) : Int) = ((i : Int) + 2) * ((i : Int) + 2) := by simp
  rw [decide_eq_false (by omega)]; rfl
theorem mod_rng {a p : Int} (hp : 2 ≤ p) : 0 ≤ a % p ∧ a % p < p := ⟨Int.emod_nonneg _ (by omega), Int.emod_lt_of_pos _ (by omega)⟩
theorem mod_neg {a p : Int} (hp : 2 ≤ p) (h : a.tmod p < 0) : a.tmod p + p = a % p := by
 have := (tmod_neg (by omega) h).2
 omega
theorem mod_pos {a p : Int} (hp : 2 ≤ p) (h : ¬ a.tmod p < 0) : a.tmod p = a % p := (tmod_pos (by omega) (by omega)).2
theorem mod_two {a p : Int} (hp : 2 ≤ p) : (a.tmod p + p) % p = a % p := by
 by_cases h : a.tmod p < 0
 ·rw [mod_neg hp h, Int.emod_emod]
 ·rw [mod_pos hp h, Int.add_emod_right, Int.emod_emod]
theorem mod_small {a p : Int} (h0 : 0 ≤ a) (h : a < p) : a % p = a := Int.emod_eq_of_lt h0 h
theorem tmod_lt {a p : Int} (hp : 2 ≤ p) : -p ≤ a.tmod p ∧ a.tmod p < p := by
 have hr := mod_rng (a := a) hp
 by_cases h : a.tmod p < 0
 ·have := mod_neg hp h; omega
 ·have := mod_pos hp h; omega
def egN (g h : Int) : Int := wrap64 (g - wrap64 (g / h * h))
def egU (x u q : Int) : Int := wrap64 (x - wrap64 (q * u))
def egL : Nat → Int → Int → Int → Int → Int
 | 0, _, _, x, _ => x
 | n + 1, g, h, x, u => if h = 0 then x else egL n h (egN g h) u (egU x u (g / h))
theorem egL_end (n : Nat) (g x u : Int) : egL n g 0 x u = x := by
 cases n with
 | zero => rfl
 | succ n => simp only [egL]; rw [if_pos trivial]
theorem egL_step {n : Nat} {g h x u : Int} (h0 : h ≠ 0) : egL (n + 1) g h x u = egL n h (egN g h) u (egU x u (g / h)) := by simp only [egL]; rw [if_neg h0]
theorem egN_eq {g h : Int} (hg : 0 ≤ g ∧ g ≤ 10000) (hh : 0 < h ∧ h ≤ 10000) : egN g h = g % h ∧ 0 ≤ g / h ∧ g / h ≤ 10000 := by
 have h2 := Int.emod_add_mul_ediv g h
 have h3 : 0 ≤ g / h := Int.ediv_nonneg hg.1 (by omega)
 have h4 : g / h ≤ g := Int.ediv_le_self _ hg.1
 have h5 := Int.emod_nonneg g (show h ≠ 0 by omega)
 have h6 : g / h * h = g - g % h := by rw [Int.mul_comm]; omega
 refine ⟨?_, by omega, by omega⟩
 unfold egN
 rw [h6]
 have h7 := Int.emod_lt_of_pos g hh.1
 unfold wrap64
 omega
theorem egN_rng {g h : Int} (hg : 0 ≤ g ∧ g ≤ 10000) (hh : 0 < h ∧ h ≤ 10000) : 0 ≤ egN g h ∧ egN g h < h := by
 rw [(egN_eq hg hh).1]
 exact ⟨Int.emod_nonneg _ (by omega), Int.emod_lt_of_pos _ hh.1⟩
theorem egU_rng (x u q : Int) : I64 (egU x u q) := by unfold egU wrap64 I64; omega
def invX (a p : Int) : Int := egL (p.toNat + 1) a p 1 0 % p
def ResL (p : Int) (m : List Int) : Prop := ∀ x ∈ m, 0 ≤ x ∧ x < p
theorem ResL.getD {p : Int} {m : List Int} (hp : 2 ≤ p) (h : ResL p m) (i : Nat) : 0 ≤ m.getD i 0 ∧ m.getD i 0 < p := by
 by_cases hi : i < m.length
 ·have e : m.getD i 0 = m[i] := by simp [List.getD, List.getElem?_eq_getElem hi]
  rw [e]; exact h _ (List.getElem_mem hi)
 ·have e : m.getD i 0 = 0 := by simp [List.getD, List.getElem?_eq_none (show m.length ≤ i by omega)]
  rw [e]; omega
theorem res_cell {p : Int} {m : List Int} (hp : 2 ≤ p) (h : ResL p m) (C i j : Nat) : 0 ≤ cell m C i j ∧ cell m C i j < p := h.getD hp _
theorem res_num {p : Int} {m : List Int} (hp : p ≤ 10000) (h : ResL p m) : NumL m := fun x hx => by have := h x hx; omega
theorem res_updR {p : Int} {f : Nat → Int} {o : Nat} (hf : ∀ k, 0 ≤ f k ∧ f k < p) {k : Nat} {m : List Int} (h : ResL p m) : ResL p (updR f o k m) := fun x hx => by
 rcases updR_mem hx with hx | ⟨i, _, rfl⟩
 ·exact h x hx
 ·exact hf i
theorem res_swN {p : Int} {m : List Int} {C a b : Nat} (hp : 2 ≤ p) (h : ResL p m) : ∀ k, ResL p (swN m C a b k)
 | 0 => h
 | k + 1 => fun x hx => by
  rcases List.mem_or_eq_of_mem_set hx with hx | rfl
  ·rcases List.mem_or_eq_of_mem_set hx with hx | rfl
   ·exact res_swN hp h k x hx
   ·exact res_cell hp h C b k
  ·exact res_cell hp h C a k
theorem updR_same {f : Nat → Int} {o : Nat} {m : List Int} : ∀ {k : Nat}, (∀ i, i < k → f i = m.getD (o + i) 0) → o + k ≤ m.length → updR f o k m = m
 | 0, _, _ => rfl
 | k + 1, h, hl => by
  simp only [updR]
  rw [updR_same (k := k) (fun i hi => h i (by omega)) (by omega), h k (by omega)]
  apply List.ext_getElem?
  intro i
  rw [List.getElem?_set]
  by_cases e : o + k = i
  ·subst e; rw [if_pos rfl, if_pos (by omega)]; simp [List.getD, List.getElem?_eq_getElem (show o + k < m.length by omega)]
  ·rw [if_neg e]
def elK (m : List Int) (C j : Nat) : Nat → Nat → Nat
 | 0, k => k
 | n + 1, k => if cell m C k j = 0 then elK m C j n (k + 1) else k
theorem elK_zero {m : List Int} {C j n k : Nat} (h : cell m C k j = 0) : elK m C j (n + 1) k = elK m C j n (k + 1) := by simp only [elK]; rw [if_pos h]
theorem elK_hit {m : List Int} {C j n k : Nat} (h : cell m C k j ≠ 0) : elK m C j n k = k := by
 cases n with
 | zero => rfl
 | succ n => simp only [elK]; rw [if_neg h]
def elV1 (m : List Int) (C t : Nat) (x p : Int) (c : Nat) : Int := (cell m C t c * x) % p
def elV2 (m : List Int) (C i j t : Nat) (p : Int) (c : Nat) : Int := (cell m C i c - cell m C i j * cell m C t c) % p
def elM1 (m : List Int) (C t k : Nat) : List Int := if k = t then m else swR m C k t
def elM2 (m : List Int) (C t j : Nat) (p : Int) : List Int := updR (elV1 m C t (invX (cell m C t j) p) p) (t * C) C m
def elR (p : Int) (C j t : Nat) : Nat → List Int → List Int
 | 0, m => m
 | n + 1, m => if n = t then elR p C j t n m else updR (elV2 (elR p C j t n m) C n j t p) (n * C) C (elR p C j t n m)
def elS (p : Int) (C R j t k : Nat) (m : List Int) : List Int := elR p C j t R (elM2 (elM1 m C t k) C t j p)
def elN (p : Int) (C R : Nat) : Nat → Nat → Nat → List Int → Nat
 | 0, _, t, _ => t
 | n + 1, j, t, m => if t < R then (if elK m C j (R - t) t = R then elN p C R n (j + 1) t m else elN p C R n (j + 1) (t + 1) (elS p C R j t (elK m C j (R - t) t) m)) else t
theorem elN_full {p : Int} {C R n j t : Nat} {m : List Int} (h : ¬ t < R) : elN p C R n j t m = t := by
 cases n with
 | zero => rfl
 | succ n => simp only [elN]; rw [if_neg h]
theorem elN_skip {p : Int} {C R n j t k : Nat} {m : List Int} (h : t < R) (hk : k = elK m C j (R - t) t) (hR : k = R) : elN p C R (n + 1) j t m = elN p C R n (j + 1) t m := by
 simp only [elN]; rw [if_pos h, if_pos (by rw [← hk]; exact hR)]
theorem elN_step {p : Int} {C R n j t k : Nat} {m : List Int} (h : t < R) (hk : k = elK m C j (R - t) t) (hR : k ≠ R) : elN p C R (n + 1) j t m = elN p C R n (j + 1) (t + 1) (elS p C R j t k m) := by
 simp only [elN]; rw [if_pos h, if_neg (by rw [← hk]; exact hR), ← hk]
theorem elV1_rng {m : List Int} {C t : Nat} {x p : Int} (hp : 2 ≤ p) (c : Nat) : 0 ≤ elV1 m C t x p c ∧ elV1 m C t x p c < p := mod_rng hp
theorem elV2_rng {m : List Int} {C i j t : Nat} {p : Int} (hp : 2 ≤ p) (c : Nat) : 0 ≤ elV2 m C i j t p c ∧ elV2 m C i j t p c < p := mod_rng hp
theorem elM1_res {m : List Int} {C t k : Nat} {p : Int} (hp : 2 ≤ p) (h : ResL p m) : ResL p (elM1 m C t k) := by
 unfold elM1; split
 ·exact h
 ·exact res_swN hp h C
theorem elM1_len (m : List Int) (C t k : Nat) : (elM1 m C t k).length = m.length := by
 unfold elM1; split
 ·rfl
 ·exact swN_len ..
theorem elM2_res {m : List Int} {C t j : Nat} {p : Int} (hp : 2 ≤ p) (h : ResL p m) : ResL p (elM2 m C t j p) := res_updR (elV1_rng hp) h
theorem elM2_len (m : List Int) (C t j : Nat) (p : Int) : (elM2 m C t j p).length = m.length := updR_len ..
theorem elR_res {C j t : Nat} {p : Int} (hp : 2 ≤ p) {m : List Int} (h : ResL p m) : ∀ n, ResL p (elR p C j t n m)
 | 0 => h
 | n + 1 => by
  simp only [elR]; split
  ·exact elR_res hp h n
  ·exact res_updR (elV2_rng hp) (elR_res hp h n)
theorem elR_len (p : Int) (C j t : Nat) (m : List Int) : ∀ n, (elR p C j t n m).length = m.length
 | 0 => rfl
 | n + 1 => by
  simp only [elR]; split
  ·exact elR_len p C j t m n
  ·rw [updR_len, elR_len p C j t m n]
theorem elR_self {p : Int} {C j t n : Nat} {m : List Int} (h : n = t) : elR p C j t (n + 1) m = elR p C j t n m := by simp only [elR]; rw [if_pos h]
theorem elR_upd {p : Int} {C j t n : Nat} {m : List Int} (h : n ≠ t) : elR p C j t (n + 1) m = updR (elV2 (elR p C j t n m) C n j t p) (n * C) C (elR p C j t n m) := by simp only [elR]; rw [if_neg h]
theorem elR_null {p : Int} {C R j t n : Nat} {m : List Int} (hp : 2 ≤ p) (hm : ResL p m) (hl : m.length = R * C) (hn : n < R) (h : n ≠ t) (h0 : cell (elR p C j t n m) C n j = 0) : elR p C j t (n + 1) m = elR p C j t n m := by
 rw [elR_upd h]
 refine updR_same (fun i hi => ?_) ?_
 ·unfold elV2
  rw [h0, Int.zero_mul, Int.sub_zero]
  have := res_cell hp (elR_res (C := C) (j := j) (t := t) hp hm n) C n i
  rw [mod_small this.1 this.2]; rfl
 ·rw [elR_len, hl]
  have : (n + 1) * C ≤ R * C := Nat.mul_le_mul_right _ hn
  rw [Nat.add_mul] at this; omega
def redL (p : Int) (m : List Int) : List Int := updR (fun k => m.getD k 0 % p) 0 m.length m
theorem redL_len (p : Int) (m : List Int) : (redL p m).length = m.length := updR_len ..
theorem redL_res {p : Int} (hp : 2 ≤ p) (m : List Int) : ResL p (redL p m) := fun x hx => by
 obtain ⟨j, hj, rfl⟩ := List.mem_iff_getElem.1 hx
 have hj2 : j < m.length := by rw [redL_len] at hj; exact hj
 have e : (redL p m)[j] = (redL p m).getD j 0 := by simp [List.getD, List.getElem?_eq_getElem hj]
 rw [e]
 unfold redL
 rw [updR_getD (by omega), if_pos (by omega), Nat.sub_zero]
 exact mod_rng hp
def rkOk (m : Mat) (p : Int) : Bool := prB p && isMatB m
def rkN (m : Mat) (p : Int) : Nat := if rkOk m p = true then elN p m.cols.toNat m.rows.toNat m.cols.toNat 0 0 (redL p m.cells) else 0
end Go.Proofs.YtjepiemflpjjhaaGreat

namespace Go.Proofs.YtjepiemflpjjhaaGreat
open Go.RowKit
theorem results_tmp4 {fn : Func} {t u v x : Tmp} (h : fn.results = #[.tmp t, .tmp u, .tmp v, .tmp x]) (tmps : Array Value) (P : Program) (w : World) :
  (results fn tmps).run P w = .ok (.tuple #[tmps.getD t undef, tmps.getD u undef, tmps.getD v undef, tmps.getD x undef]) w := by
 simp [results, h]
theorem iMod_c (a p : Int) (w : World) (_ha : I64 a) (hp : 2 ≤ p ∧ p ≤ 10000) : Calls Tryz.prog 98 #[.int .i64 a, .int .i64 p] w fun e w' => e = .returned (.int .i64 (a % p)) ∧ w = w' := by
 have hp0 : p ≠ 0 := by omega
 have hr := tmod_lt (a := a) hp.1
 by_cases h : a.tmod p < 0
 ·have H := Lib.hid (mod_neg hp.1 h)
  go_enter Tryz.func98, Tryz.ntmps98
  go_wp2
  go_ret
  exact ⟨ret_int H.out, rfl⟩
 ·have H := Lib.hid (mod_pos hp.1 h)
  go_enter Tryz.func98, Tryz.ntmps98
  go_wp2
  go_ret
  exact ⟨ret_int H.out, rfl⟩
theorem sMod_c (a p : Int) (w : World) (_ha : I64 a) (hp : 2 ≤ p ∧ p ≤ 10000) : Calls Tryz.prog 106 #[.int .i64 a, .int .i64 p] w fun e w' => e = .returned (.int .i64 (a % p)) ∧ w = w' := by
 have hp0 : p ≠ 0 := by omega
 have hr := tmod_lt (a := a) hp.1
 have H := Lib.hid (mod_two (a := a) hp.1)
 go_enter Tryz.func106, Tryz.ntmps106
 go_wp2
 go_ret
 exact ⟨ret_int H.out, rfl⟩
theorem iIsPrime_c (p : Int) (w : World) (_hp : I64 p) : Calls Tryz.prog 97 #[.int .i64 p] w fun e w' => e = .returned (.bool (prB p)) ∧ w = w' := by
 cases hin : inB p 2 10000 with
 | false =>
  have HN := Lib.hid (prB_in hin)
  by_cases h1 : p < 2
  ·clear hin
   go_enter Tryz.func97, Tryz.ntmps97
   go_wp2
   go_ret
   exact ⟨by rw [HN.out]; rfl, rfl⟩
  ·have h2 : 10000 < p := by
    rcases Int.lt_or_le 10000 p with h | h
    ·exact h
    ·rw [inB_iff.2 ⟨by omega, h⟩] at hin; cases hin
   clear hin
   go_enter Tryz.func97, Tryz.ntmps97
   go_wp2
   go_ret
   exact ⟨by rw [HN.out]; rfl, rfl⟩
 | true =>
  obtain ⟨h1, h2⟩ := inB_iff.1 hin
  have Hin := Lib.hid hin; clear hin
  go_enter Tryz.func97, Tryz.ntmps97
  go_wp2
  go_loopw [3] (fun q wr => w = wr ∧ ∃ d : Nat, 2 ≤ d ∧ d ≤ 101 ∧ q = .int .i64 d ∧ ∀ i : Nat, i + 2 < d → p.tmod ((i : Int) + 2) ≠ 0) (fun q _ => 102 - (intOf q).toNat)
  case atStart => exact ⟨by trivial, 2, by omega, by omega, rfl, fun i hi => by omega⟩
  case round =>
   obtain ⟨rfl, d, hd2, hd, rfl, hall⟩ := hrel
   have Hall := Lib.hid hall; clear hall
   have hmn := Nat.mul_le_mul hd hd
   have hm0 : ((d * d : Nat) : Int) = (d : Int) * d := by simp
   obtain ⟨mm, hmm⟩ : ∃ mm, mm = (d : Int) * d := ⟨_, rfl⟩
   have hmr : 0 ≤ mm ∧ mm ≤ 10201 := by omega
   have u1 : IntKind.i64.wrap ((d : Int) * d) = mm := by rw [← hmm]; exact IntWalk.i64_in _ (by omega)
   have u2 : wrap64 ((d : Int) * d) = mm := by rw [← hmm]; unfold wrap64; omega
   have Hmm := Lib.hid hmm
   clear hmm hm0 hmn
   by_cases hle : mm ≤ p
   ·have hd0 : (d : Int) ≠ 0 := by omega
    have hd100 : d ≤ 100 := by
     rcases Nat.lt_or_ge 100 d with h | h
     ·have h1 := Nat.mul_le_mul (show 101 ≤ d from h) (show 101 ≤ d from h)
      have h4 : ((d * d : Nat) : Int) = (d : Int) * d := by simp
      rw [← Hmm.out] at h4
      omega
     ·exact h
    by_cases hz : p.tmod d = 0
    ·have HN := Lib.hid (prB_no hd2 (by rw [← Hmm.out]; exact hle) (by omega) hz)
     have q1 : (p % (d : Int) == 0) = true := by rw [← Int.tmod_eq_emod_of_nonneg (by omega)]; simp [hz]
     clear hz
     go_wp2
     go_ret
     exact ⟨by rw [HN.out]; rfl, rfl⟩
    ·have q1 : (p % (d : Int) == 0) = false := by rw [← Int.tmod_eq_emod_of_nonneg (by omega)]; simp [hz]
     have HA := Lib.hid (show ∀ i : Nat, i + 2 < d + 1 → p.tmod ((i : Int) + 2) ≠ 0 from fun i hi => by
      by_cases e : i + 2 = d
      ·rw [show (i : Int) + 2 = (d : Int) by omega]; exact hz
      ·exact Hall.out i (by omega))
     clear hz
     go_wp2
     go_roundw
     case rel => exact ⟨by trivial, d + 1, by omega, by omega, by go_num, HA.out⟩
     case measure => simp [intOf]; omega
   ·have HY := Lib.hid (prB_yes Hin.out (by rw [← Hmm.out]; exact hle) Hall.out)
    go_wp2
    go_ret
    exact ⟨by rw [HY.out]; rfl, rfl⟩
theorem sIsPrime_c (p : Int) (w : World) (_hp : I64 p) : Calls Tryz.prog 104 #[.int .i64 p] w fun e w' => e = .returned (.bool (prB p)) ∧ w = w' := by
 cases hin : inB p 2 10000 with
 | false =>
  have HN := Lib.hid (prB_in hin)
  go_enter Tryz.func104, Tryz.ntmps104
  go_wp2_with fail
  refine (l1In_q hin _).mono ?_
  rintro e w ⟨rfl, rfl⟩
  go_wp2
  go_ret
  exact ⟨by rw [HN.out]; rfl, rfl⟩
 | true =>
  obtain ⟨h1, h2⟩ := inB_iff.1 hin
  have Hin := Lib.hid hin
  go_enter Tryz.func104, Tryz.ntmps104
  go_wp2_with fail
  refine (l1In_q hin _).mono ?_
  rintro e w ⟨rfl, rfl⟩
  clear hin
  go_wp2
  go_loopw [3] (fun q wr => w = wr ∧ ∃ d : Nat, 2 ≤ d ∧ d ≤ 101 ∧ q = .int .i64 d ∧ ∀ i : Nat, i + 2 < d → p.tmod ((i : Int) + 2) ≠ 0) (fun q _ => 102 - (intOf q).toNat)
  case atStart => exact ⟨by trivial, 2, by omega, by omega, rfl, fun i hi => by omega⟩
  case round =>
   obtain ⟨rfl, d, hd2, hd, rfl, hall⟩ := hrel
   have Hall := Lib.hid hall; clear hall
   have hmn := Nat.mul_le_mul hd hd
   have hm0 : ((d * d : Nat) : Int) = (d : Int) * d := by simp
   obtain ⟨mm, hmm⟩ : ∃ mm, mm = (d : Int) * d := ⟨_, rfl⟩
   have hmr : 0 ≤ mm ∧ mm ≤ 10201 := by omega
   have u1 : IntKind.i64.wrap ((d : Int) * d) = mm := by rw [← hmm]; exact IntWalk.i64_in _ (by omega)
   have u2 : wrap64 ((d : Int) * d) = mm := by rw [← hmm]; unfold wrap64; omega
   have Hmm := Lib.hid hmm
   clear hmm hm0 hmn
   by_cases hle : mm ≤ p
   ·have hd0 : (d : Int) ≠ 0 := by omega
    have hd100 : d ≤ 100 := by
     rcases Nat.lt_or_ge 100 d with h | h
     ·have h1 := Nat.mul_le_mul (show 101 ≤ d from h) (show 101 ≤ d from h)
      have h4 : ((d * d : Nat) : Int) = (d : Int) * d := by simp
      rw [← Hmm.out] at h4
      omega
     ·exact h
    by_cases hz : p.tmod d = 0
    ·have HN := Lib.hid (prB_no hd2 (by rw [← Hmm.out]; exact hle) (by omega) hz)
     have q1 : (p % (d : Int) == 0) = true := by rw [← Int.tmod_eq_emod_of_nonneg (by omega)]; simp [hz]
     clear hz
     go_wp2
     go_ret
     exact ⟨by rw [HN.out]; rfl, rfl⟩
    ·have q1 : (p % (d : Int) == 0) = false := by rw [← Int.tmod_eq_emod_of_nonneg (by omega)]; simp [hz]
     have HA := Lib.hid (show ∀ i : Nat, i + 2 < d + 1 → p.tmod ((i : Int) + 2) ≠ 0 from fun i hi => by
      by_cases e : i + 2 = d
      ·rw [show (i : Int) + 2 = (d : Int) by omega]; exact hz
      ·exact Hall.out i (by omega))
     clear hz
     go_wp2
     go_roundw
     case rel => exact ⟨by trivial, d + 1, by omega, by omega, by go_num, HA.out⟩
     case measure => simp [intOf]; omega
   ·have HY := Lib.hid (prB_yes Hin.out (by rw [← Hmm.out]; exact hle) Hall.out)
    go_wp2
    go_ret
    exact ⟨by rw [HY.out]; rfl, rfl⟩
theorem sEgcd_c (a b : Int) (w : World) (ha : 0 ≤ a ∧ a ≤ 10000) (hb : 0 ≤ b ∧ b ≤ 10000) : Calls Tryz.prog 135 #[.int .i64 a, .int .i64 b] w fun e w' => ∃ g y, e = .returned (.tuple #[.int .i64 g, .int .i64 (egL (b.toNat + 1) a b 1 0), .int .i64 y, .bool true]) ∧ w = w' := by
 have H1 := Lib.hid (isNumB_iff.2 (show -400000000 ≤ a ∧ a ≤ 400000000 by omega))
 have H2 := Lib.hid (isNumB_iff.2 (show -400000000 ≤ b ∧ b ≤ 400000000 by omega))
 obtain ⟨res, hres⟩ : ∃ res, res = egL (b.toNat + 1) a b 1 0 := ⟨_, rfl⟩
 rw [← hres]
 have Hres := Lib.hid hres; clear hres
 go_enter Tryz.func135, Tryz.ntmps135
 go_wp2_with fail
 refine (sIsNumber_c _ _).mono ?_
 rintro e _ ⟨rfl, rfl⟩
 rw [H1.out]
 go_wp2_with fail
 refine (sIsNumber_c _ _).mono ?_
 rintro e _ ⟨rfl, rfl⟩
 rw [H2.out]
 go_wp2
 go_loopw [8, 9, 10, 11, 12, 13] (fun gv xv yv hv uv vv wr => w = wr ∧ ∃ (g x y h u v : Int) (n : Nat), gv = .int .i64 g ∧ xv = .int .i64 x ∧ yv = .int .i64 y ∧ hv = .int .i64 h ∧ uv = .int .i64 u ∧ vv = .int .i64 v ∧ (0 ≤ g ∧ g ≤ 10000) ∧ (0 ≤ h ∧ h ≤ 10000) ∧ h.toNat ≤ n ∧ egL n g h x u = res ∧ I64 x ∧ I64 u ∧ I64 y ∧ I64 v) (fun _ _ _ hv _ _ _ => (intOf hv).toNat)
 case atStart => exact ⟨by trivial, _, _, _, _, _, _, b.toNat + 1, rfl, rfl, rfl, rfl, rfl, rfl, ha, hb, by omega, Hres.out.symm, by simp [I64], by simp [I64], by simp [I64], by simp [I64]⟩
 case round =>
  obtain ⟨rfl, g, x, y, h, u, v, n, rfl, rfl, rfl, rfl, rfl, rfl, hg, hh, hn, hre, hx, hu, hy, hv⟩ := hrel
  have Hre := Lib.hid hre; clear hre
  by_cases h0 : h = 0
  ·subst h0
   have HE := Lib.hid (show x = res by rw [← Hre.out, egL_end])
   have q1 : ((0 : Int) == 0) = true := rfl
   have hg0 : ¬ g < 0 := by omega
   go_wp2
   (try simp only [Exit.inBlock, Exit.then])
   refine bodyPost_ret (results_tmp4 rfl _ _ _) rfl ?_
   exact ⟨⟨_, _, by rw [← HE.out]; rfl⟩, rfl⟩
  ·have q1 : (h == 0) = false := by simp [h0]
   have q2 : (h != 0) = true := by simp [h0]
   obtain ⟨n', rfl⟩ : ∃ n', n = n' + 1 := ⟨n - 1, by omega⟩
   have hNr : 0 ≤ wrap64 (g - wrap64 (g / h * h)) ∧ wrap64 (g - wrap64 (g / h * h)) < h := egN_rng hg (show 0 < h ∧ h ≤ 10000 by omega)
   have HS := Lib.hid (show egL n' h (egN g h) u (egU x u (g / h)) = res by rw [← Hre.out, egL_step h0])
   have HU := Lib.hid (egU_rng x u (g / h))
   have HV := Lib.hid (egU_rng y v (g / h))
   have h1 := (egN_eq hg (show 0 < h ∧ h ≤ 10000 by omega)).2
   have HN := Lib.hid (show wrap64 (g - wrap64 (g / h * h)) = egN g h from rfl)
   have HUu := Lib.hid (show wrap64 (x - wrap64 (g / h * u)) = egU x u (g / h) from rfl)
   have HVv := Lib.hid (show wrap64 (y - wrap64 (g / h * v)) = egU y v (g / h) from rfl)
   go_wp2
   go_roundw
   case rel => exact ⟨by trivial, h, u, v, egN g h, egU x u (g / h), egU y v (g / h), n', rfl, rfl, rfl, rfl, rfl, rfl, by omega, by show 0 ≤ wrap64 (g - wrap64 (g / h * h)) ∧ wrap64 (g - wrap64 (g / h * h)) ≤ 10000; omega, by show (wrap64 (g - wrap64 (g / h * h))).toNat ≤ n'; omega, HS.out, hu, HU.out, hv, HV.out⟩
   case measure => simp [intOf]; omega
end Go.Proofs.YtjepiemflpjjhaaGreat

namespace Go.Proofs.YtjepiemflpjjhaaGreat
open Go.RowKit
def redB (m : Mat) (p : Int) : Mat := if rkOk m p = true then { rows := m.rows, cols := m.cols, cells := redL p m.cells } else { rows := 0, cols := 0, cells := [] }
theorem red_no {m : Mat} {p : Int} (h : rkOk m p = false) : rkOk m p = false ∧ redB m p = { rows := 0, cols := 0, cells := [] } := by unfold redB; rw [h]; exact ⟨rfl, rfl⟩
theorem red_yes {m : Mat} {p : Int} (h : rkOk m p = true) : rkOk m p = true ∧ redB m p = { rows := m.rows, cols := m.cols, cells := redL p m.cells } := by unfold redB; rw [h]; exact ⟨rfl, rfl⟩
theorem rk_p {m : Mat} {p : Int} (h : prB p = false) : rkOk m p = false := by unfold rkOk; rw [h]; rfl
theorem rk_m {m : Mat} {p : Int} (h : isMatB m = false) : rkOk m p = false := by unfold rkOk; rw [h]; simp
theorem rk_yes {m : Mat} {p : Int} (h1 : prB p = true) (h2 : isMatB m = true) : rkOk m p = true := by unfold rkOk; rw [h1, h2]; rfl
theorem iReduce_c {S : Nat → Prop} {v : Value} {m : Mat} {p : Int} {w : World} (h : VM w S v m) (hb : bdM m ≤ 1048576) (hp : I64 p) :
  Calls Tryz.prog 58 #[v, .int .i64 p] w fun e w' => ∃ r, e = .returned (.tuple #[r, .bool (rkOk m p)]) ∧ OM w' (New w w') r (redB m p) ∧ Grow w w' := by
 have hVM := h
 obtain ⟨a, n, c, rfl, h, ir, ic⟩ := h
 obtain ⟨w2, hw2⟩ : ∃ w2, w2 = (w.alloc (.cells #[.int .i64 m.rows, .int .i64 m.cols, .slice a n c] 40)).alloc (.cells #[.int .i64 0, .int .i64 0, .slice none 0 0] 40) := ⟨_, rfl⟩
 have hG2 : Grow w w2 := by rw [hw2]; exact ((Grow.refl w).alloc _ _).alloc _ _
 have bM : Blk w2 w.heap.size #[.int .i64 m.rows, .int .i64 m.cols, .slice a n c] 40 := by rw [hw2]; exact (Blk.new w _ _).alloc _
 have bZ : Blk w2 (w.heap.size + 1) #[.int .i64 0, .int .i64 0, .slice none 0 0] 40 := by rw [hw2]; exact Blk.newAt _ _ _ (by simp)
 have Hw2 := Lib.hid hw2; clear hw2
 have hVM2 := hVM.grow hG2
 cases hpr : prB p with
 | false =>
  have Hz := Lib.hid (red_no (rk_p (m := m) hpr))
  have Hp := Lib.hid hpr; clear hpr
  go_enter Tryz.func58, Tryz.ntmps58
  go_wp2_with fail
  rw [← Hw2.out]
  refine (iIsPrime_c p _ hp).mono ?_
  rintro e _ ⟨rfl, rfl⟩
  rw [Hp.out]
  have bRz := bZ
  have hGz := hG2
  obtain ⟨⟨z0, z1, z2⟩, g0, g1, g2⟩ := bRz.three
  have hltz := bRz.lt
  have h1' : w.heap.size ≤ w.heap.size + 1 := by omega
  go_wp2
  exact ret_cell_tmp T_mat rfl rfl rfl (((bRz.set 0 _).set 1 _).set 2 _) ⟨_, by rw [Hz.out.1]; rfl, by rw [Hz.out.2]; exact OM.zero, ((hGz.setCell h1' _).setCell h1' _).setCell h1' _⟩
 | true =>
  have Hp := Lib.hid hpr; clear hpr
  go_enter Tryz.func58, Tryz.ntmps58
  go_wp2_with fail
  rw [← Hw2.out]
  refine (iIsPrime_c p _ hp).mono ?_
  rintro e _ ⟨rfl, rfl⟩
  rw [Hp.out]
  obtain ⟨⟨m0, m1, m2⟩, -⟩ := bM.three
  have hltM := bM.lt
  cases hmm : isMatB m with
  | false =>
   have Hz := Lib.hid (red_no (rk_m (p := p) hmm))
   have Hm := Lib.hid hmm; clear hmm
   go_wp2_with fail
   refine (isMatrix_c hVM2 (by omega)).mono ?_
   rintro e w3 ⟨rfl, hG3⟩
   rw [Hm.out]
   have bRz := bZ.grow hG3
   have hGz := hG2.trans hG3
   clear m0 m1 m2
   obtain ⟨⟨z0, z1, z2⟩, g0, g1, g2⟩ := bRz.three
   have hltz := bRz.lt
   have h1' : w.heap.size ≤ w.heap.size + 1 := by omega
   go_wp2
   exact ret_cell_tmp T_mat rfl rfl rfl (((bRz.set 0 _).set 1 _).set 2 _) ⟨_, by rw [Hz.out.1]; rfl, by rw [Hz.out.2]; exact OM.zero, ((hGz.setCell h1' _).setCell h1' _).setCell h1' _⟩
  | true =>
   have Hm := Lib.hid hmm; clear hmm
   go_wp2_with fail
   refine (isMatrix_c hVM2 (by omega)).mono ?_
   rintro e w3 ⟨rfl, hG3⟩
   rw [Hm.out]
   have bM3 := bM.grow hG3
   have bZ3 := bZ.grow hG3
   have hVM3 := hVM2.grow hG3
   have hG13 := hG2.trans hG3
   clear m0 m1 m2
   have hprr := prB_rng Hp.out
   obtain ⟨_, _, -, -, -, -, -, hnum⟩ := isMatB_shape Hm.out
   obtain ⟨⟨m0, m1, m2⟩, -⟩ := bM3.three
   have hltM3 := bM3.lt
   have hltZ3 := bZ3.lt
   go_wp2_with fail
   refine (copyMatrix_c hVM3 (by omega)).mono ?_
   rintro e w4 ⟨rv, rfl, hR4, hG4⟩
   obtain ⟨ra, rn, rc, rfl, oR, rR, fR, i1, i2⟩ := hR4
   obtain ⟨w5, hw5⟩ : ∃ w5, w5 = w4.alloc (.cells #[.int .i64 m.rows, .int .i64 m.cols, .slice ra rn rc] 40) := ⟨_, rfl⟩
   have hG5 : Grow w4 w5 := by rw [hw5]; exact (Grow.refl w4).alloc _ _
   have bO5 : Blk w5 w4.heap.size #[.int .i64 m.rows, .int .i64 m.cols, .slice ra rn rc] 40 := by rw [hw5]; exact Blk.new w4 _ _
   have hO5 := oR.grow hG5
   have hrn : m.cells.length = rn := by have := oR.len; simpa [ints] using this
   have hlo : ∀ g, blk ra = some g → w3.heap.size ≤ g := fun g hg => (fR g hg).1
   have hlt4 : ∀ g, blk ra = some g → g < w4.heap.size := fun g hg => (fR g hg).2
   have hs4 := hG4.size
   have bZ5 := (bZ3.grow hG4).grow hG5
   have hG15 := (hG13.trans hG4).trans hG5
   have Hw5 := Lib.hid hw5
   have Hrn := Lib.hid hrn
   have Hnum := Lib.hid (show NumL m.cells from hnum)
   have hs13 := hG13.size
   have hbn : rn ≤ 1048576 := by rw [← hrn]; unfold bdM at hb; omega
   have HY := Lib.hid (red_yes (rk_yes Hp.out Hm.out))
   have Hres := Lib.hid (res_num hprr.2 (redL_res hprr.1 m.cells))
   have Hrd := Lib.hid (show redL p m.cells = updR (fun k => m.cells.getD k 0 % p) 0 rn m.cells by unfold redL; rw [hrn])
   clear hw5 m0 m1 m2 oR hrn hnum
   go_wp2
   rw [← Hw5.out]
   go_loopw [22] (fun q wr => Keep (fun g => blk ra ≠ some g) w5 wr ∧ ∃ k : Nat, k ≤ rn ∧ q = .int .i64 k ∧ Own wr 3 1 ra rn rc (ints (updR (fun k => m.cells.getD k 0 % p) 0 k m.cells))) (fun q _ => rn - (intOf q).toNat)
   case atStart => exact ⟨Keep.refl _ _, 0, Nat.zero_le _, rfl, hO5⟩
   case round =>
    clear hO5
    obtain ⟨u, rfl⟩ : ∃ u, u = wr := ⟨_, rfl⟩
    obtain ⟨hKp, k, hk, rfl, hO⟩ := hrel
    have bOu := bO5.keep hKp (fun e => by have := hlt4 _ e; omega)
    obtain ⟨⟨o0, o1, o2⟩, -⟩ := bOu.three
    by_cases hlt : k < rn
    ·have hlen : (updR (fun k => m.cells.getD k 0 % p) 0 k m.cells).length = rn := by rw [updR_len, Hrn.out]
     have hg1 : (updR (fun k => m.cells.getD k 0 % p) 0 k m.cells).getD k 0 = m.cells.getD k 0 := by rw [updR_getD (by rw [Hrn.out]; omega), if_neg (by omega)]
     have hx := Hnum.out.getD k
     obtain ⟨pb, rfl⟩ : ∃ pb, ra = some ⟨pb, 0, none⟩ := by
      cases ra with
      | none => have := hO.nil rfl; have := hO.le; omega
      | some q => exact ⟨q.block, by rw [← (hO.block q rfl).1]⟩
     have hcx := hO.cell (ints_get (by omega) hg1)
     have hpb := hO.lt (g := pb) rfl
     have hle := hO.le
     have hltk : k < (updR (fun k => m.cells.getD k 0 % p) 0 k m.cells).length := by rw [hlen]; exact hlt
     have Hst := Lib.hid (show updR (fun k => m.cells.getD k 0 % p) 0 (k + 1) m.cells = (updR (fun k => m.cells.getD k 0 % p) 0 k m.cells).set k (m.cells.getD k 0 % p) by simp [updR])
     have hO1 := hO
     clear hg1 hlen hO
     simp only at hcx
     generalize hv : m.cells.getD k 0 = x at *
     clear hv
     go_wp2
     refine wp_region_segsX (S := (Grow u)) (last := 11) [([0, 1, 2, 3, 4, 5, 6, 7, 8], some 9), ([10], some 11)] P_mixed (by kernel_rfl) (fun _ _ _ _ _ h => h) (Grow.refl _).drew ?_
     show wpQuiet _ _ _ _ [_, _, _, _, _, _, _, _, _] _
     repeat (first | go_big_quiet_skip | (go_big_quiet_want; first | (apply quiet_load CT_ints; rfl; rfl; exact (fun w' hG => hG.cell o2); go_big_quiet_on; simp only [Act.put, List.setIfInBounds_toArray, List.set_cons_succ, List.set_cons_zero]) | (apply quiet_load CT_int; rfl; rfl; exact (fun w' hG => hG.cell hcx); go_big_quiet_on; simp only [Act.put, List.setIfInBounds_toArray, List.set_cons_succ, List.set_cons_zero]) | (go_big_quiet_op; first | go_big_quiet_on | (refine ⟨_, (fun _ _ => rfl), ?_⟩; go_big_quiet_on))))
     refine wpQuiet_nil ?_
     refine seg_goX rfl (fun K hK => ?_)
     go_wp2_with fail
     refine (iMod_c x p _ (by unfold I64; omega) hprr).mono ?_
     rintro e _ ⟨rfl, rfl⟩
     have hGu := (Grow.refl u).drew
     go_wp2_with fail
     refine hK _ _ ((fun _ => hGu)) ?_
     clear hK K
     show wpQuiet _ _ _ _ [_] _
     try (conv => arg 6; simp only [Act.put, List.setIfInBounds_toArray, List.set_cons_succ, List.set_cons_zero])
     repeat (first | go_big_quiet_skip | (go_big_quiet_want; first | (apply quiet_load CT_ints; rfl; rfl; exact (fun w' hG => hG.cell o2); go_big_quiet_on; simp only [Act.put, List.setIfInBounds_toArray, List.set_cons_succ, List.set_cons_zero]) | (apply quiet_load CT_int; rfl; rfl; exact (fun w' hG => hG.cell hcx); go_big_quiet_on; simp only [Act.put, List.setIfInBounds_toArray, List.set_cons_succ, List.set_cons_zero]) | (go_big_quiet_op; first | go_big_quiet_on | (refine ⟨_, (fun _ _ => rfl), ?_⟩; go_big_quiet_on))))
     refine wpQuiet_nil ?_
     refine seg_goX rfl (fun K hK => ?_)
     have hO2 := hO1.grow hGu
     have hfr := hO2.free k
     have hc2 := hGu.cell hcx
     have hltu := hO2.lt (g := pb) rfl
     have hO9 : Own (u.drew.setCell ⟨pb, k, none⟩ (.int .i64 (x % p))) 3 1 (some ⟨pb, 0, none⟩) rn rc (ints (updR (fun k => m.cells.getD k 0 % p) 0 (k + 1) m.cells)) := by
      have := hO2.set k (.int .i64 (x % p))
      rw [← ints_set, ← Hst.out] at this
      exact this
     have hK9 : Keep (fun g => blk (some (⟨pb, 0, none⟩ : Addr)) ≠ some g) w5 (u.drew.setCell ⟨pb, k, none⟩ (.int .i64 (x % p))) := (hKp.trans hGu.any).setCell (p := ⟨pb, k, none⟩) (fun _ e => e rfl) _
     simp only at hfr hc2
     clear hO1 hO2
     go_wp2_with fail
     refine hK _ _ ((fun h => (h rfl).elim)) ?_
     clear hK K
     refine wpSegsX_nil ?_
     go_wp2
     go_roundw
     case rel => exact ⟨hK9, k + 1, by omega, by go_num, hO9⟩
     case measure => simp [intOf]; omega
    ·have hkE : k = rn := by omega
     rw [hkE, ← Hrd.out] at hO
     have bZr := bZ5.keep hKp (fun e => by have := hlo _ e; omega)
     have hGr : Grow w u := Grow.keep (S := fun g => blk ra ≠ some g) hG15 hKp (fun g hg e => by have := hlo _ e; omega)
     obtain ⟨⟨z0, z1, z2⟩, g0, g1, g2⟩ := bZr.three
     have hltZ := bZr.lt
     have hltO := bOu.lt
     have hKs : Keep (fun q => q ≠ w.heap.size + 1) u (((u.setCell ⟨w.heap.size + 1, 0, none⟩ (.int .i64 m.rows)).setCell ⟨w.heap.size + 1, 1, none⟩ (.int .i64 m.cols)).setCell ⟨w.heap.size + 1, 2, none⟩ (.slice ra rn rc)) :=
      (((Keep.refl _ u).setCell (fun _ e => e rfl) _).setCell (fun _ e => e rfl) _).setCell (fun _ e => e rfl) _
     have hof := hO.keep hKs (fun g hg _ e => by have := hlo g hg; omega)
     have hGf := hGr.keep hKs (fun q hq => by omega)
     go_wp2
     exact ret_cell_tmp T_mat rfl rfl rfl (((bZr.set 0 _).set 1 _).set 2 _) ⟨_, by rw [HY.out.1]; rfl, by rw [HY.out.2]; exact ⟨ra, rn, rc, rfl, hof, num_rng Hres.out, (fun g hg => ⟨by have := hlo g hg; omega, hof.lt hg⟩), ir, ic⟩, hGf⟩
theorem sReduce_c {S : Nat → Prop} {v : Value} {m : Mat} {p : Int} {w : World} (h : VM w S v m) (hb : bdM m ≤ 1048576) (hp : I64 p) :
  Calls Tryz.prog 65 #[v, .int .i64 p] w fun e w' => ∃ r, e = .returned (.tuple #[r, .bool (rkOk m p)]) ∧ OM w' (New w w') r (redB m p) ∧ Grow w w' := by
 have hVM := h
 obtain ⟨a, n, c, rfl, h, ir, ic⟩ := h
 obtain ⟨w2, hw2⟩ : ∃ w2, w2 = (w.alloc (.cells #[.int .i64 m.rows, .int .i64 m.cols, .slice a n c] 40)).alloc (.cells #[.int .i64 0, .int .i64 0, .slice none 0 0] 40) := ⟨_, rfl⟩
 have hG2 : Grow w w2 := by rw [hw2]; exact ((Grow.refl w).alloc _ _).alloc _ _
 have bM : Blk w2 w.heap.size #[.int .i64 m.rows, .int .i64 m.cols, .slice a n c] 40 := by rw [hw2]; exact (Blk.new w _ _).alloc _
 have bZ : Blk w2 (w.heap.size + 1) #[.int .i64 0, .int .i64 0, .slice none 0 0] 40 := by rw [hw2]; exact Blk.newAt _ _ _ (by simp)
 have Hw2 := Lib.hid hw2; clear hw2
 have hVM2 := hVM.grow hG2
 cases hmm : isMatB m with
 | false =>
  have Hz := Lib.hid (red_no (rk_m (p := p) hmm))
  have Hm := Lib.hid hmm; clear hmm
  go_enter Tryz.func65, Tryz.ntmps65
  go_wp2_with fail
  rw [← Hw2.out]
  refine (sIsMatrix_c hVM2 (by omega)).mono ?_
  rintro e w3 ⟨rfl, hG3⟩
  rw [Hm.out]
  have bRz := bZ.grow hG3
  have hGz := hG2.trans hG3
  obtain ⟨⟨z0, z1, z2⟩, g0, g1, g2⟩ := bRz.three
  have hltz := bRz.lt
  have h1' : w.heap.size ≤ w.heap.size + 1 := by omega
  go_wp2
  exact ret_cell_tmp T_mat rfl rfl rfl (((bRz.set 0 _).set 1 _).set 2 _) ⟨_, by rw [Hz.out.1]; rfl, by rw [Hz.out.2]; exact OM.zero, ((hGz.setCell h1' _).setCell h1' _).setCell h1' _⟩
 | true =>
  have Hm := Lib.hid hmm; clear hmm
  go_enter Tryz.func65, Tryz.ntmps65
  go_wp2_with fail
  rw [← Hw2.out]
  refine (sIsMatrix_c hVM2 (by omega)).mono ?_
  rintro e w3 ⟨rfl, hG3⟩
  rw [Hm.out]
  have bM3 := bM.grow hG3
  have bZ3 := bZ.grow hG3
  have hVM3 := hVM2.grow hG3
  have hG13 := hG2.trans hG3
  cases hpr : prB p with
  | false =>
   have Hz := Lib.hid (red_no (rk_p (m := m) hpr))
   have Hp := Lib.hid hpr; clear hpr
   go_wp2_with fail
   refine (sIsPrime_c p _ hp).mono ?_
   rintro e _ ⟨rfl, rfl⟩
   rw [Hp.out]
   have bRz := bZ3
   have hGz := hG13
   obtain ⟨⟨z0, z1, z2⟩, g0, g1, g2⟩ := bRz.three
   have hltz := bRz.lt
   have h1' : w.heap.size ≤ w.heap.size + 1 := by omega
   go_wp2
   exact ret_cell_tmp T_mat rfl rfl rfl (((bRz.set 0 _).set 1 _).set 2 _) ⟨_, by rw [Hz.out.1]; rfl, by rw [Hz.out.2]; exact OM.zero, ((hGz.setCell h1' _).setCell h1' _).setCell h1' _⟩
  | true =>
   have Hp := Lib.hid hpr; clear hpr
   go_wp2_with fail
   refine (sIsPrime_c p _ hp).mono ?_
   rintro e _ ⟨rfl, rfl⟩
   rw [Hp.out]
   have hprr := prB_rng Hp.out
   obtain ⟨_, _, -, -, -, -, -, hnum⟩ := isMatB_shape Hm.out
   obtain ⟨⟨m0, m1, m2⟩, -⟩ := bM3.three
   have hltM3 := bM3.lt
   have hltZ3 := bZ3.lt
   go_wp2_with fail
   refine (l3Copy_c hVM3 (by omega)).mono ?_
   rintro e w4 ⟨rv, rfl, hR4, hG4⟩
   obtain ⟨ra, rn, rc, rfl, oR, rR, fR, i1, i2⟩ := hR4
   obtain ⟨w5, hw5⟩ : ∃ w5, w5 = w4.alloc (.cells #[.int .i64 m.rows, .int .i64 m.cols, .slice ra rn rc] 40) := ⟨_, rfl⟩
   have hG5 : Grow w4 w5 := by rw [hw5]; exact (Grow.refl w4).alloc _ _
   have bO5 : Blk w5 w4.heap.size #[.int .i64 m.rows, .int .i64 m.cols, .slice ra rn rc] 40 := by rw [hw5]; exact Blk.new w4 _ _
   have hO5 := oR.grow hG5
   have hrn : m.cells.length = rn := by have := oR.len; simpa [ints] using this
   have hlo : ∀ g, blk ra = some g → w3.heap.size ≤ g := fun g hg => (fR g hg).1
   have hlt4 : ∀ g, blk ra = some g → g < w4.heap.size := fun g hg => (fR g hg).2
   have hs4 := hG4.size
   have bZ5 := (bZ3.grow hG4).grow hG5
   have hG15 := (hG13.trans hG4).trans hG5
   have Hw5 := Lib.hid hw5
   have Hrn := Lib.hid hrn
   have Hnum := Lib.hid (show NumL m.cells from hnum)
   have hs13 := hG13.size
   have hbn : rn ≤ 1048576 := by rw [← hrn]; unfold bdM at hb; omega
   have HY := Lib.hid (red_yes (rk_yes Hp.out Hm.out))
   have Hres := Lib.hid (res_num hprr.2 (redL_res hprr.1 m.cells))
   have Hrd := Lib.hid (show redL p m.cells = updR (fun k => m.cells.getD k 0 % p) 0 rn m.cells by unfold redL; rw [hrn])
   clear hw5 m0 m1 m2 oR hrn hnum
   go_wp2
   rw [← Hw5.out]
   go_loopw [7] (fun q wr => Keep (fun g => blk ra ≠ some g) w5 wr ∧ ∃ k : Nat, k ≤ rn ∧ q = .int .i64 k ∧ Own wr 3 1 ra rn rc (ints (updR (fun k => m.cells.getD k 0 % p) 0 k m.cells))) (fun q _ => rn - (intOf q).toNat)
   case atStart => exact ⟨Keep.refl _ _, 0, Nat.zero_le _, rfl, hO5⟩
   case round =>
    clear hO5
    obtain ⟨u, rfl⟩ : ∃ u, u = wr := ⟨_, rfl⟩
    obtain ⟨hKp, k, hk, rfl, hO⟩ := hrel
    have bOu := bO5.keep hKp (fun e => by have := hlt4 _ e; omega)
    obtain ⟨⟨o0, o1, o2⟩, -⟩ := bOu.three
    by_cases hlt : k < rn
    ·have hlen : (updR (fun k => m.cells.getD k 0 % p) 0 k m.cells).length = rn := by rw [updR_len, Hrn.out]
     have hg1 : (updR (fun k => m.cells.getD k 0 % p) 0 k m.cells).getD k 0 = m.cells.getD k 0 := by rw [updR_getD (by rw [Hrn.out]; omega), if_neg (by omega)]
     have hx := Hnum.out.getD k
     obtain ⟨pb, rfl⟩ : ∃ pb, ra = some ⟨pb, 0, none⟩ := by
      cases ra with
      | none => have := hO.nil rfl; have := hO.le; omega
      | some q => exact ⟨q.block, by rw [← (hO.block q rfl).1]⟩
     have hcx := hO.cell (ints_get (by omega) hg1)
     have hpb := hO.lt (g := pb) rfl
     have hle := hO.le
     have hltk : k < (updR (fun k => m.cells.getD k 0 % p) 0 k m.cells).length := by rw [hlen]; exact hlt
     have Hst := Lib.hid (show updR (fun k => m.cells.getD k 0 % p) 0 (k + 1) m.cells = (updR (fun k => m.cells.getD k 0 % p) 0 k m.cells).set k (m.cells.getD k 0 % p) by simp [updR])
     have hO1 := hO
     clear hg1 hlen hO
     simp only at hcx
     generalize hv : m.cells.getD k 0 = x at *
     clear hv
     go_wp2
     refine wp_region_segsX (S := (Grow u)) (last := 11) [([0, 1, 2, 3, 4, 5, 6, 7, 8], some 9), ([10], some 11)] P_mixed (by kernel_rfl) (fun _ _ _ _ _ h => h) (Grow.refl _).drew ?_
     show wpQuiet _ _ _ _ [_, _, _, _, _, _, _, _, _] _
     repeat (first | go_big_quiet_skip | (go_big_quiet_want; first | (apply quiet_load CT_ints; rfl; rfl; exact (fun w' hG => hG.cell o2); go_big_quiet_on; simp only [Act.put, List.setIfInBounds_toArray, List.set_cons_succ, List.set_cons_zero]) | (apply quiet_load CT_int; rfl; rfl; exact (fun w' hG => hG.cell hcx); go_big_quiet_on; simp only [Act.put, List.setIfInBounds_toArray, List.set_cons_succ, List.set_cons_zero]) | (go_big_quiet_op; first | go_big_quiet_on | (refine ⟨_, (fun _ _ => rfl), ?_⟩; go_big_quiet_on))))
     refine wpQuiet_nil ?_
     refine seg_goX rfl (fun K hK => ?_)
     go_wp2_with fail
     refine (sMod_c x p _ (by unfold I64; omega) hprr).mono ?_
     rintro e _ ⟨rfl, rfl⟩
     have hGu := (Grow.refl u).drew
     go_wp2_with fail
     refine hK _ _ ((fun _ => hGu)) ?_
     clear hK K
     show wpQuiet _ _ _ _ [_] _
     try (conv => arg 6; simp only [Act.put, List.setIfInBounds_toArray, List.set_cons_succ, List.set_cons_zero])
     repeat (first | go_big_quiet_skip | (go_big_quiet_want; first | (apply quiet_load CT_ints; rfl; rfl; exact (fun w' hG => hG.cell o2); go_big_quiet_on; simp only [Act.put, List.setIfInBounds_toArray, List.set_cons_succ, List.set_cons_zero]) | (apply quiet_load CT_int; rfl; rfl; exact (fun w' hG => hG.cell hcx); go_big_quiet_on; simp only [Act.put, List.setIfInBounds_toArray, List.set_cons_succ, List.set_cons_zero]) | (go_big_quiet_op; first | go_big_quiet_on | (refine ⟨_, (fun _ _ => rfl), ?_⟩; go_big_quiet_on))))
     refine wpQuiet_nil ?_
     refine seg_goX rfl (fun K hK => ?_)
     have hO2 := hO1.grow hGu
     have hfr := hO2.free k
     have hc2 := hGu.cell hcx
     have hltu := hO2.lt (g := pb) rfl
     have hO9 : Own (u.drew.setCell ⟨pb, k, none⟩ (.int .i64 (x % p))) 3 1 (some ⟨pb, 0, none⟩) rn rc (ints (updR (fun k => m.cells.getD k 0 % p) 0 (k + 1) m.cells)) := by
      have := hO2.set k (.int .i64 (x % p))
      rw [← ints_set, ← Hst.out] at this
      exact this
     have hK9 : Keep (fun g => blk (some (⟨pb, 0, none⟩ : Addr)) ≠ some g) w5 (u.drew.setCell ⟨pb, k, none⟩ (.int .i64 (x % p))) := (hKp.trans hGu.any).setCell (p := ⟨pb, k, none⟩) (fun _ e => e rfl) _
     simp only at hfr hc2
     clear hO1 hO2
     go_wp2_with fail
     refine hK _ _ ((fun h => (h rfl).elim)) ?_
     clear hK K
     refine wpSegsX_nil ?_
     go_wp2
     go_roundw
     case rel => exact ⟨hK9, k + 1, by omega, by go_num, hO9⟩
     case measure => simp [intOf]; omega
    ·have hkE : k = rn := by omega
     rw [hkE, ← Hrd.out] at hO
     have bZr := bZ5.keep hKp (fun e => by have := hlo _ e; omega)
     have hGr : Grow w u := Grow.keep (S := fun g => blk ra ≠ some g) hG15 hKp (fun g hg e => by have := hlo _ e; omega)
     obtain ⟨⟨z0, z1, z2⟩, g0, g1, g2⟩ := bZr.three
     have hltZ := bZr.lt
     have hltO := bOu.lt
     have hKs : Keep (fun q => q ≠ w.heap.size + 1) u (((u.setCell ⟨w.heap.size + 1, 0, none⟩ (.int .i64 m.rows)).setCell ⟨w.heap.size + 1, 1, none⟩ (.int .i64 m.cols)).setCell ⟨w.heap.size + 1, 2, none⟩ (.slice ra rn rc)) :=
      (((Keep.refl _ u).setCell (fun _ e => e rfl) _).setCell (fun _ e => e rfl) _).setCell (fun _ e => e rfl) _
     have hof := hO.keep hKs (fun g hg _ e => by have := hlo g hg; omega)
     have hGf := hGr.keep hKs (fun q hq => by omega)
     go_wp2
     exact ret_cell_tmp T_mat rfl rfl rfl (((bZr.set 0 _).set 1 _).set 2 _) ⟨_, by rw [HY.out.1]; rfl, by rw [HY.out.2]; exact ⟨ra, rn, rc, rfl, hof, num_rng Hres.out, (fun g hg => ⟨by have := hlo g hg; omega, hof.lt hg⟩), ir, ic⟩, hGf⟩
end Go.Proofs.YtjepiemflpjjhaaGreat

namespace Go.Proofs.YtjepiemflpjjhaaGreat
open Go.RowKit
theorem egL_rng : ∀ {n : Nat} {g h x u : Int}, I64 x → I64 u → I64 (egL n g h x u)
 | 0, _, _, _, _, hx, _ => hx
 | n + 1, g, h, x, u, hx, hu => by
  simp only [egL]; split
  ·exact hx
  ·exact egL_rng hu (egU_rng _ _ _)
def cellN (w : World) (p : Addr) : Nat := match w.cell? p with
 | some (.int _ h) => h.toNat
 | _ => 0
theorem iEgcd_c (a b : Int) (w : World) (ha : 0 ≤ a ∧ a ≤ 10000) (hb : 0 ≤ b ∧ b ≤ 10000) : Calls Tryz.prog 132 #[.int .i64 a, .int .i64 b] w fun e w' => ∃ g y, e = .returned (.tuple #[.int .i64 g, .int .i64 (egL (b.toNat + 1) a b 1 0), .int .i64 y, .bool true]) ∧ Grow w w' := by
 have H1 := Lib.hid (isNumB_iff.2 (show -400000000 ≤ a ∧ a ≤ 400000000 by omega))
 have H2 := Lib.hid (isNumB_iff.2 (show -400000000 ≤ b ∧ b ≤ 400000000 by omega))
 obtain ⟨res, hres⟩ : ∃ res, res = egL (b.toNat + 1) a b 1 0 := ⟨_, rfl⟩
 rw [← hres]
 have Hres := Lib.hid hres; clear hres
 obtain ⟨w2, hw2⟩ : ∃ w2, w2 = (w.alloc (.cells #[.int .i64 a, .int .i64 1, .int .i64 0] 128)).alloc (.cells #[.int .i64 b, .int .i64 0, .int .i64 1] 128) := ⟨_, rfl⟩
 have hG2 : Grow w w2 := by rw [hw2]; exact ((Grow.refl w).alloc _ _).alloc _ _
 have bA : Blk w2 w.heap.size #[.int .i64 a, .int .i64 1, .int .i64 0] 128 := by rw [hw2]; exact (Blk.new w _ _).alloc _
 have bBk : Blk w2 (w.heap.size + 1) #[.int .i64 b, .int .i64 0, .int .i64 1] 128 := by rw [hw2]; exact Blk.newAt _ _ _ (by simp)
 have Hw2 := Lib.hid hw2; clear hw2
 go_enter Tryz.func132, Tryz.ntmps132
 go_wp2_with fail
 refine (isNumber_c _ _).mono ?_
 rintro e _ ⟨rfl, rfl⟩
 rw [H1.out]
 go_wp2_with fail
 refine (isNumber_c _ _).mono ?_
 rintro e _ ⟨rfl, rfl⟩
 rw [H2.out]
 go_wp2
 rw [← Hw2.out]
 go_loopw [10] (fun _ wr => Grow w wr ∧ ∃ (g x y h u1 v1 : Int) (n : Nat), Blk wr w.heap.size #[.int .i64 g, .int .i64 x, .int .i64 y] 128 ∧ Blk wr (w.heap.size + 1) #[.int .i64 h, .int .i64 u1, .int .i64 v1] 128 ∧ (0 ≤ g ∧ g ≤ 10000) ∧ (0 ≤ h ∧ h ≤ 10000) ∧ h.toNat ≤ n ∧ egL n g h x u1 = res ∧ I64 x ∧ I64 u1 ∧ I64 y ∧ I64 v1) (fun _ wr => cellN wr ⟨w.heap.size + 1, 0, none⟩)
 case atStart => exact ⟨hG2, _, _, _, _, _, _, b.toNat + 1, bA, bBk, ha, hb, by omega, Hres.out.symm, by simp [I64], by simp [I64], by simp [I64], by simp [I64]⟩
 case round =>
  clear bA bBk hG2
  obtain ⟨wo, rfl⟩ : ∃ wo, wo = wr := ⟨_, rfl⟩
  obtain ⟨hG, g, x, y, h, u1, v1, n, bA, bBk, hg, hh, hn, hre, hx, hu, hy, hv⟩ := hrel
  have Hre := Lib.hid hre; clear hre
  obtain ⟨⟨a0, a1, a2⟩, -⟩ := bA.three
  obtain ⟨⟨b0, b1, b2⟩, -⟩ := bBk.three
  have hltB := bBk.lt
  by_cases h0 : h = 0
  ·subst h0
   have HE := Lib.hid (show x = res by rw [← Hre.out, egL_end])
   have q1 : ((0 : Int) == 0) = true := rfl
   have hg0 : ¬ g < 0 := by omega
   go_wp2
   refine wp_region_segs (S := Grow wo) [([0, 1, 2, 3, 4, 5, 6, 7, 8, 9], none)] P_mixed (by kernel_rfl) (fun _ _ _ _ _ h => h) (Grow.refl _).drew ?_
   show wpQuiet _ _ _ _ [_, _, _, _, _, _, _, _, _, _] _
   repeat (first | go_big_quiet_skip | (go_big_quiet_want; first | (apply quiet_load CT_int; rfl; rfl; exact (fun w' hG => hG.cell a0); go_big_quiet_on; simp only [Act.put, List.setIfInBounds_toArray, List.set_cons_succ, List.set_cons_zero]) | (apply quiet_load CT_int; rfl; rfl; exact (fun w' hG => hG.cell a1); go_big_quiet_on; simp only [Act.put, List.setIfInBounds_toArray, List.set_cons_succ, List.set_cons_zero]) | (apply quiet_load CT_int; rfl; rfl; exact (fun w' hG => hG.cell a2); go_big_quiet_on; simp only [Act.put, List.setIfInBounds_toArray, List.set_cons_succ, List.set_cons_zero]) | (go_big_quiet_op; first | go_big_quiet_on | (refine ⟨_, (fun _ _ => rfl), ?_⟩; go_big_quiet_on))))
   refine wpQuiet_nil ?_
   refine wpSegs_nil ?_
   go_wp2
   (try simp only [Exit.inBlock, Exit.then])
   refine bodyPost_ret (results_tmp4 rfl _ _ _) rfl ?_
   exact ⟨_, _, by rw [← HE.out]; rfl, hG.drew⟩
  ·have q1 : (h == 0) = false := by simp [h0]
   have q2 : (h != 0) = true := by simp [h0]
   obtain ⟨n', rfl⟩ : ∃ n', n = n' + 1 := ⟨n - 1, by omega⟩
   have hNr : 0 ≤ egN g h ∧ egN g h < h := egN_rng hg (show 0 < h ∧ h ≤ 10000 by omega)
   have HS := Lib.hid (show egL n' h (egN g h) u1 (egU x u1 (g / h)) = res by rw [← Hre.out, egL_step h0])
   have hU := egU_rng x u1 (g / h)
   have hV := egU_rng y v1 (g / h)
   have h1 := (egN_eq hg (show 0 < h ∧ h ≤ 10000 by omega)).2
   obtain ⟨N, hN⟩ : ∃ N, wrap64 (g - wrap64 (g / h * h)) = N := ⟨_, rfl⟩
   obtain ⟨U, hUe⟩ : ∃ U, wrap64 (x - wrap64 (g / h * u1)) = U := ⟨_, rfl⟩
   obtain ⟨V, hVe⟩ : ∃ V, wrap64 (y - wrap64 (g / h * v1)) = V := ⟨_, rfl⟩
   have eN : egN g h = N := hN
   have eU : egU x u1 (g / h) = U := hUe
   have eV : egU y v1 (g / h) = V := hVe
   rw [eN] at hNr HS
   rw [eU] at hU HS
   rw [eV] at hV
   clear eN eU eV
   obtain ⟨w3, hw3⟩ : ∃ w3, w3 = wo.alloc (.cells #[.int .i64 0, .int .i64 0, .int .i64 0] 128) := ⟨_, rfl⟩
   have hG3 : Grow wo w3 := by rw [hw3]; exact (Grow.refl wo).alloc _ _
   have bD0 : Blk w3 wo.heap.size #[.int .i64 0, .int .i64 0, .int .i64 0] 128 := by rw [hw3]; exact Blk.new wo _ _
   have bA3 := bA.grow hG3
   have bB3 := bBk.grow hG3
   have hltA := bA.lt
   have Hw3 := Lib.hid hw3
   have hsw := hG.size
   clear hw3
   go_wp2
   rw [← Hw3.out]
   clear a0 a1 a2 b0 b1 b2
   go_loopw [35] (fun q x3 => Keep (fun g => g ≠ wo.heap.size) w3 x3 ∧ ((q = .int .i64 0 ∧ Blk x3 wo.heap.size #[.int .i64 0, .int .i64 0, .int .i64 0] 128) ∨ (q = .int .i64 1 ∧ Blk x3 wo.heap.size #[.int .i64 N, .int .i64 0, .int .i64 0] 128) ∨ (q = .int .i64 2 ∧ Blk x3 wo.heap.size #[.int .i64 N, .int .i64 U, .int .i64 0] 128) ∨ (q = .int .i64 3 ∧ Blk x3 wo.heap.size #[.int .i64 N, .int .i64 U, .int .i64 V] 128))) (fun q _ => 3 - (intOf q).toNat)
   case atStart => exact ⟨Keep.refl _ _, .inl ⟨rfl, bD0⟩⟩
   case round =>
    clear bD0
    obtain ⟨u, rfl⟩ : ∃ u, u = wr := ⟨_, rfl⟩
    obtain ⟨hK, (⟨rfl, bD⟩ | ⟨rfl, bD⟩ | ⟨rfl, bD⟩ | ⟨rfl, bD⟩)⟩ := hrel
    ·have bAu := bA3.keep hK (by omega)
     have bBu := bB3.keep hK (by omega)
     obtain ⟨⟨a0, a1, a2⟩, -⟩ := bAu.three
     obtain ⟨⟨b0, b1, b2⟩, -⟩ := bBu.three
     obtain ⟨⟨d0, d1, d2⟩, f0, f1, f2⟩ := bD.three
     have hltA := bAu.lt
     have hltB := bBu.lt
     have hltD := bD.lt
     go_wp2
     refine wp_region_segsX (S := (Grow u)) (last := 11) [([0, 1, 2, 3, 4, 5, 6, 7, 8, 9, 10], some 11)] P_mixed (by kernel_rfl) (fun _ _ _ _ _ h => h) (Grow.refl _).drew ?_
     show wpQuiet _ _ _ _ [_, _, _, _, _, _, _, _, _, _, _] _
     repeat (first | go_big_quiet_skip | (go_big_quiet_want; first | (apply quiet_load CT_int; rfl; rfl; exact (fun w' hG => hG.cell a0); go_big_quiet_on; simp only [Act.put, List.setIfInBounds_toArray, List.set_cons_succ, List.set_cons_zero]) | (apply quiet_load CT_int; rfl; rfl; exact (fun w' hG => hG.cell b0); go_big_quiet_on; simp only [Act.put, List.setIfInBounds_toArray, List.set_cons_succ, List.set_cons_zero]) | (go_big_quiet_op; first | go_big_quiet_on | (refine ⟨_, (fun _ _ => rfl), ?_⟩; go_big_quiet_on))))
     refine wpQuiet_nil ?_
     have bDs := (bD.grow (Grow.refl u).drew).set 0 (.int .i64 N)
     have hKs : Keep (fun g => g ≠ wo.heap.size) w3 (u.drew.setCell ⟨wo.heap.size, 0, none⟩ (.int .i64 N)) := (hK.trans (Grow.refl u).drew.any).setCell (p := ⟨wo.heap.size, 0, none⟩) (fun _ e => e rfl) _
     clear a0 a1 a2 b0 b1 b2
     refine seg_goX rfl (fun K hK => ?_)
     have bD1 := bD.grow (Grow.refl u).drew
     obtain ⟨⟨d0, d1, d2⟩, f0, f1, f2⟩ := bD1.three
     have hltD1 := bD1.lt
     go_wp2_with fail
     refine hK _ _ ((fun h => (h rfl).elim)) ?_
     clear hK K
     refine wpSegsX_nil ?_
     go_wp2
     go_roundw
     case rel => exact ⟨hKs, .inr <| .inl ⟨by go_num, bDs⟩⟩
     case measure => simp [intOf]
    ·have bAu := bA3.keep hK (by omega)
     have bBu := bB3.keep hK (by omega)
     obtain ⟨⟨a0, a1, a2⟩, -⟩ := bAu.three
     obtain ⟨⟨b0, b1, b2⟩, -⟩ := bBu.three
     obtain ⟨⟨d0, d1, d2⟩, f0, f1, f2⟩ := bD.three
     have hltA := bAu.lt
     have hltB := bBu.lt
     have hltD := bD.lt
     go_wp2
     refine wp_region_segsX (S := (Grow u)) (last := 11) [([0, 1, 2, 3, 4, 5, 6, 7, 8, 9, 10], some 11)] P_mixed (by kernel_rfl) (fun _ _ _ _ _ h => h) (Grow.refl _).drew ?_
     show wpQuiet _ _ _ _ [_, _, _, _, _, _, _, _, _, _, _] _
     repeat (first | go_big_quiet_skip | (go_big_quiet_want; first | (apply quiet_load CT_int; rfl; rfl; exact (fun w' hG => hG.cell a1); go_big_quiet_on; simp only [Act.put, List.setIfInBounds_toArray, List.set_cons_succ, List.set_cons_zero]) | (apply quiet_load CT_int; rfl; rfl; exact (fun w' hG => hG.cell b1); go_big_quiet_on; simp only [Act.put, List.setIfInBounds_toArray, List.set_cons_succ, List.set_cons_zero]) | (go_big_quiet_op; first | go_big_quiet_on | (refine ⟨_, (fun _ _ => rfl), ?_⟩; go_big_quiet_on))))
     refine wpQuiet_nil ?_
     have bDs := (bD.grow (Grow.refl u).drew).set 1 (.int .i64 U)
     have hKs : Keep (fun g => g ≠ wo.heap.size) w3 (u.drew.setCell ⟨wo.heap.size, 1, none⟩ (.int .i64 U)) := (hK.trans (Grow.refl u).drew.any).setCell (p := ⟨wo.heap.size, 1, none⟩) (fun _ e => e rfl) _
     clear a0 a1 a2 b0 b1 b2
     refine seg_goX rfl (fun K hK => ?_)
     have bD1 := bD.grow (Grow.refl u).drew
     obtain ⟨⟨d0, d1, d2⟩, f0, f1, f2⟩ := bD1.three
     have hltD1 := bD1.lt
     go_wp2_with fail
     refine hK _ _ ((fun h => (h rfl).elim)) ?_
     clear hK K
     refine wpSegsX_nil ?_
     go_wp2
     go_roundw
     case rel => exact ⟨hKs, .inr <| .inr <| .inl ⟨by go_num, bDs⟩⟩
     case measure => simp [intOf]
    ·have bAu := bA3.keep hK (by omega)
     have bBu := bB3.keep hK (by omega)
     obtain ⟨⟨a0, a1, a2⟩, -⟩ := bAu.three
     obtain ⟨⟨b0, b1, b2⟩, -⟩ := bBu.three
     obtain ⟨⟨d0, d1, d2⟩, f0, f1, f2⟩ := bD.three
     have hltA := bAu.lt
     have hltB := bBu.lt
     have hltD := bD.lt
     go_wp2
     refine wp_region_segsX (S := (Grow u)) (last := 11) [([0, 1, 2, 3, 4, 5, 6, 7, 8, 9, 10], some 11)] P_mixed (by kernel_rfl) (fun _ _ _ _ _ h => h) (Grow.refl _).drew ?_
     show wpQuiet _ _ _ _ [_, _, _, _, _, _, _, _, _, _, _] _
     repeat (first | go_big_quiet_skip | (go_big_quiet_want; first | (apply quiet_load CT_int; rfl; rfl; exact (fun w' hG => hG.cell a2); go_big_quiet_on; simp only [Act.put, List.setIfInBounds_toArray, List.set_cons_succ, List.set_cons_zero]) | (apply quiet_load CT_int; rfl; rfl; exact (fun w' hG => hG.cell b2); go_big_quiet_on; simp only [Act.put, List.setIfInBounds_toArray, List.set_cons_succ, List.set_cons_zero]) | (go_big_quiet_op; first | go_big_quiet_on | (refine ⟨_, (fun _ _ => rfl), ?_⟩; go_big_quiet_on))))
     refine wpQuiet_nil ?_
     have bDs := (bD.grow (Grow.refl u).drew).set 2 (.int .i64 V)
     have hKs : Keep (fun g => g ≠ wo.heap.size) w3 (u.drew.setCell ⟨wo.heap.size, 2, none⟩ (.int .i64 V)) := (hK.trans (Grow.refl u).drew.any).setCell (p := ⟨wo.heap.size, 2, none⟩) (fun _ e => e rfl) _
     clear a0 a1 a2 b0 b1 b2
     refine seg_goX rfl (fun K hK => ?_)
     have bD1 := bD.grow (Grow.refl u).drew
     obtain ⟨⟨d0, d1, d2⟩, f0, f1, f2⟩ := bD1.three
     have hltD1 := bD1.lt
     go_wp2_with fail
     refine hK _ _ ((fun h => (h rfl).elim)) ?_
     clear hK K
     refine wpSegsX_nil ?_
     go_wp2
     go_roundw
     case rel => exact ⟨hKs, .inr <| .inr <| .inr ⟨by go_num, bDs⟩⟩
     case measure => simp [intOf]
    ·have bAu := bA3.keep hK (by omega)
     have bBu := bB3.keep hK (by omega)
     obtain ⟨⟨a0, a1, a2⟩, fa0, fa1, fa2⟩ := bAu.three
     obtain ⟨⟨b0, b1, b2⟩, fb0, fb1, fb2⟩ := bBu.three
     obtain ⟨⟨d0, d1, d2⟩, f0, f1, f2⟩ := bD.three
     have hltA2 := bAu.lt
     have hltB2 := bBu.lt
     have hltD := bD.lt
     have hne : w.heap.size ≠ w.heap.size + 1 := by omega
     have hne2 : wo.heap.size ≠ w.heap.size + 1 := by omega
     have hne3 : wo.heap.size ≠ w.heap.size := by omega
     go_wp2
     go_region
     go_wp2
     have hle0 : w.heap.size ≤ w.heap.size := Nat.le_refl _
     have hle1 : w.heap.size ≤ w.heap.size + 1 := Nat.le_succ _
     have hGu : Grow w u := Grow.keep (S := fun g => g ≠ wo.heap.size) (hG.trans hG3) hK (fun q hq => by omega)
     have bAf := (((((((bAu.set 0 (.int .i64 h)).set 1 (.int .i64 u1)).set 2 (.int .i64 v1)).other (p := ⟨w.heap.size + 1, 0, none⟩) hne (.int .i64 N)).other (p := ⟨w.heap.size + 1, 1, none⟩) hne (.int .i64 U)).other (p := ⟨w.heap.size + 1, 2, none⟩) hne (.int .i64 V)).grow (Grow.refl _).drew)
     have bBf := (((((((bBu.other (p := ⟨w.heap.size, 0, none⟩) hne.symm (.int .i64 h)).other (p := ⟨w.heap.size, 1, none⟩) hne.symm (.int .i64 u1)).other (p := ⟨w.heap.size, 2, none⟩) hne.symm (.int .i64 v1)).set 0 (.int .i64 N)).set 1 (.int .i64 U)).set 2 (.int .i64 V)).grow (Grow.refl _).drew)
     have hGf := ((((((hGu.setCell (p := ⟨w.heap.size, 0, none⟩) hle0 (.int .i64 h)).setCell (p := ⟨w.heap.size, 1, none⟩) hle0 (.int .i64 u1)).setCell (p := ⟨w.heap.size, 2, none⟩) hle0 (.int .i64 v1)).setCell (p := ⟨w.heap.size + 1, 0, none⟩) hle1 (.int .i64 N)).setCell (p := ⟨w.heap.size + 1, 1, none⟩) hle1 (.int .i64 U)).setCell (p := ⟨w.heap.size + 1, 2, none⟩) hle1 (.int .i64 V)).drew
     refine ⟨⟨hGf, h, u1, v1, N, U, V, n', bAf, bBf, by omega, by omega, by omega, HS.out, hu, hU, hv, hV⟩, ?_⟩
     have c1 := bBf.cell 0
     have c2 := bBk.cell 0
     unfold cellN
     rw [c1, c2]
     simp
     omega
theorem iInverse_c (a p : Int) (w : World) (ha : 0 ≤ a ∧ a < p) (hp : 2 ≤ p ∧ p ≤ 10000) : Calls Tryz.prog 99 #[.int .i64 a, .int .i64 p] w fun e w' => e = .returned (.int .i64 (invX a p)) ∧ Grow w w' := by
 have hx : I64 (egL (p.toNat + 1) a p 1 0) := egL_rng (by simp [I64]) (by simp [I64])
 have HX := Lib.hid (show egL (p.toNat + 1) a p 1 0 % p = invX a p from rfl)
 have Hs := Lib.hid (mod_small ha.1 ha.2)
 have HE := Lib.hid (fun w0 => iEgcd_c a p w0 (by omega) (by omega))
 generalize egL (p.toNat + 1) a p 1 0 = X at *
 go_enter Tryz.func99, Tryz.ntmps99
 go_wp2_with fail
 refine (iMod_c a p _ (by unfold I64; omega) hp).mono ?_
 rintro e _ ⟨rfl, rfl⟩
 rw [Hs.out]
 go_wp2_with fail
 refine (HE.out _).mono ?_
 rintro e w1 ⟨g, y, rfl, hG⟩
 go_wp2_with fail
 refine (iMod_c X p _ hx hp).mono ?_
 rintro e _ ⟨rfl, rfl⟩
 rw [HX.out]
 go_wp2
 go_ret
 exact ⟨rfl, hG⟩
theorem sInverse_c (a p : Int) (w : World) (ha : 0 < a ∧ a < p) (hp : prB p = true) : Calls Tryz.prog 108 #[.int .i64 a, .int .i64 p] w fun e w' => e = .returned (.tuple #[.int .i64 (invX a p), .bool true]) ∧ w = w' := by
 have hpr := prB_rng hp
 have hx : I64 (egL (p.toNat + 1) a p 1 0) := egL_rng (by simp [I64]) (by simp [I64])
 have HX := Lib.hid (show egL (p.toNat + 1) a p 1 0 % p = invX a p from rfl)
 have Hs := Lib.hid (mod_small (show 0 ≤ a by omega) ha.2)
 have HE := Lib.hid (fun w0 => sEgcd_c a p w0 (by omega) (by omega))
 have HP := Lib.hid hp
 have HN := Lib.hid (isNumB_iff.2 (show -400000000 ≤ a ∧ a ≤ 400000000 by omega))
 have q1 : (a == 0) = false := by simp; omega
 generalize egL (p.toNat + 1) a p 1 0 = X at *
 clear hp
 go_enter Tryz.func108, Tryz.ntmps108
 go_wp2_with fail
 refine (sIsPrime_c p _ (by unfold I64; omega)).mono ?_
 rintro e _ ⟨rfl, rfl⟩
 rw [HP.out]
 go_wp2_with fail
 refine (sIsNumber_c a _).mono ?_
 rintro e _ ⟨rfl, rfl⟩
 rw [HN.out]
 go_wp2_with fail
 refine (sMod_c a p _ (by unfold I64; omega) hpr).mono ?_
 rintro e _ ⟨rfl, rfl⟩
 rw [Hs.out]
 go_wp2_with fail
 refine (sMod_c a p _ (by unfold I64; omega) hpr).mono ?_
 rintro e _ ⟨rfl, rfl⟩
 rw [Hs.out]
 go_wp2_with fail
 refine (HE.out _).mono ?_
 rintro e _ ⟨g, y, rfl, rfl⟩
 go_wp2_with fail
 refine (sMod_c X p _ hx hpr).mono ?_
 rintro e _ ⟨rfl, rfl⟩
 rw [HX.out]
 go_wp2
 go_ret2
 exact ⟨rfl, rfl⟩
end Go.Proofs.YtjepiemflpjjhaaGreat
