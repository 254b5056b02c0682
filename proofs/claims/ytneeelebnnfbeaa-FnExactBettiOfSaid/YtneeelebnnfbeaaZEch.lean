/-
  The echelon form over the rationals: plain; greatest common divisors, both walks.
-/
import Derived.Test.YtneeelebnnfbeaaZRes
import Derived.Test.YtneeelebnnfbeaaZNorm
set_option maxHeartbeats 8000000
set_option maxRecDepth 100000
namespace Go.Proofs.Ytneeelebnnfbeaa
open Go.RowKit
def gI (x y : Int) : Int := ((Int.gcd x y : Nat) : Int)
theorem gcd_step {a b : Int} : Int.gcd b (a.tmod b) = Int.gcd a b := by
 unfold Int.gcd
 rw [Int.natAbs_tmod, Nat.gcd_comm b.natAbs, ← Nat.gcd_rec, Nat.gcd_comm]
theorem gcd_end (a : Int) : Int.gcd a 0 = a.natAbs := by simp [Int.gcd]
theorem tmod_small {a b : Int} (hb : b ≠ 0) : (a.tmod b).natAbs < b.natAbs := by
 rw [Int.natAbs_tmod]
 exact Nat.mod_lt _ (by omega)
theorem tmod_num {a b : Int} (ha : -400000000 ≤ a ∧ a ≤ 400000000) : -400000000 ≤ a.tmod b ∧ a.tmod b ≤ 400000000 := by
 have h1 := Int.natAbs_tmod a b
 have h2 := Nat.mod_le a.natAbs b.natAbs
 omega
theorem iGcd_c (a b : Int) (w : World) (ha : -400000000 ≤ a ∧ a ≤ 400000000) (hb : -400000000 ≤ b ∧ b ≤ 400000000) : Calls Try.prog 42 #[.int .i64 a, .int .i64 b] w fun e w' => e = .returned (.int .i64 (gI a b)) ∧ Grow w w' := by
 obtain ⟨G, hG⟩ : ∃ G, G = Int.gcd a b := ⟨_, rfl⟩
 have HR := Lib.hid (show gI a b = (G : Int) by rw [hG]; rfl)
 go_enter Try.func42, Try.ntmps42
 go_wp2
 go_loopw [0, 1] (fun av bv wr => Grow w wr ∧ ∃ x y : Int, av = .int .i64 x ∧ bv = .int .i64 y ∧ (-400000000 ≤ x ∧ x ≤ 400000000) ∧ (-400000000 ≤ y ∧ y ≤ 400000000) ∧ Int.gcd x y = G) (fun _ bv _ => (intOf bv).natAbs)
 case atStart => exact ⟨Grow.refl _, a, b, rfl, rfl, ha, hb, hG.symm⟩
 case round =>
  clear ha hb hG
  obtain ⟨hGr, x, y, rfl, rfl, hx, hy, hg⟩ := hrel
  have Hg := Lib.hid hg; clear hg
  by_cases h0 : y = 0
  ·have q1 : (y != 0) = false := by simp [h0]
   have HE := Lib.hid (show (x.natAbs : Int) = gI a b by rw [HR.out, ← Hg.out, h0, gcd_end])
   go_wp2_with fail
   refine (absInt_c x _ (by omega)).mono ?_
   rintro e _ ⟨rfl, rfl⟩
   rw [HE.out]
   go_wp2
   go_ret
   exact ⟨rfl, hGr⟩
  ·have q1 : (y != 0) = true := by simp [h0]
   have hm := tmod_num (b := y) hx
   have hlt := tmod_small (a := x) h0
   have Hs := Lib.hid (show Int.gcd y (x.tmod y) = G by rw [gcd_step, Hg.out])
   go_wp2
   go_region
   go_wp2
   go_roundw
   case rel => exact ⟨hGr.drew, y, x.tmod y, rfl, rfl, hy, hm, Hs.out⟩
   case measure => simp only [intOf]; omega
theorem sGcd_c (a b : Int) (w : World) (ha : -400000000 ≤ a ∧ a ≤ 400000000) (hb : -400000000 ≤ b ∧ b ≤ 400000000) : Calls Try.prog 49 #[.int .i64 a, .int .i64 b] w fun e w' => e = .returned (.int .i64 (gI a b)) ∧ Grow w w' := by
 obtain ⟨G, hG⟩ : ∃ G, G = Int.gcd a b := ⟨_, rfl⟩
 have HR := Lib.hid (show gI a b = (G : Int) by rw [hG]; rfl)
 have H1 := Lib.hid (isNumB_iff.2 ha)
 have H2 := Lib.hid (isNumB_iff.2 hb)
 go_enter Try.func49, Try.ntmps49
 go_wp2_with fail
 refine (sIsNumber_c _ _).mono ?_
 rintro e _ ⟨rfl, rfl⟩
 rw [H1.out]
 go_wp2_with fail
 refine (sIsNumber_c _ _).mono ?_
 rintro e _ ⟨rfl, rfl⟩
 rw [H2.out]
 go_wp2
 go_loopw [0, 1] (fun av bv wr => Grow w wr ∧ ∃ x y : Int, av = .int .i64 x ∧ bv = .int .i64 y ∧ (-400000000 ≤ x ∧ x ≤ 400000000) ∧ (-400000000 ≤ y ∧ y ≤ 400000000) ∧ Int.gcd x y = G) (fun _ bv _ => (intOf bv).natAbs)
 case atStart => exact ⟨Grow.refl _, a, b, rfl, rfl, ha, hb, hG.symm⟩
 case round =>
  clear ha hb hG
  obtain ⟨hGr, x, y, rfl, rfl, hx, hy, hg⟩ := hrel
  have Hg := Lib.hid hg; clear hg
  by_cases h0 : y = 0
  ·have q1 : (y != 0) = false := by simp [h0]
   have HE := Lib.hid (show (x.natAbs : Int) = gI a b by rw [HR.out, ← Hg.out, h0, gcd_end])
   go_wp2_with fail
   refine (l1Abs_c x _ (by omega)).mono ?_
   rintro e _ ⟨rfl, rfl⟩
   rw [HE.out]
   go_wp2
   go_ret
   exact ⟨rfl, hGr⟩
  ·have q1 : (y != 0) = true := by simp [h0]
   have hm := tmod_num (b := y) hx
   have hlt := tmod_small (a := x) h0
   have Hs := Lib.hid (show Int.gcd y (x.tmod y) = G by rw [gcd_step, Hg.out])
   go_wp2
   go_region
   go_wp2
   go_roundw
   case rel => exact ⟨hGr.drew, y, x.tmod y, rfl, rfl, hy, hm, Hs.out⟩
   case measure => simp only [intOf]; omega
def rowG (m : List Int) (C i : Nat) : Nat → Nat
 | 0 => 0
 | n + 1 => Nat.gcd (rowG m C i n) (cell m C i n).natAbs
def primD (m : List Int) (C i : Nat) : Int := if 0 ≤ cell m C i (fz (rowL m C i)) then (rowG m C i C : Int) else -(rowG m C i C : Int)
def primV (m : List Int) (C i k : Nat) : Int := (cell m C i k).tdiv (primD m C i)
def primR (m : List Int) (C i : Nat) : List Int := if rowG m C i C = 0 then m else updR (primV m C i) (i * C) C m
def primAll (m : List Int) (C : Nat) : Nat → List Int
 | 0 => m
 | n + 1 => primR (primAll m C n) C n
theorem primR_len (m : List Int) (C i : Nat) : (primR m C i).length = m.length := by unfold primR; split; rfl; exact updR_len ..
theorem tdiv_num' {x y : Int} (hx : -400000000 ≤ x ∧ x ≤ 400000000) : -400000000 ≤ x.tdiv y ∧ x.tdiv y ≤ 400000000 := by
 have h1 : (x.tdiv y).natAbs = x.natAbs / y.natAbs := Int.natAbs_tdiv ..
 have h2 := Nat.div_le_self x.natAbs y.natAbs
 omega
theorem primV_num {m : List Int} {C i : Nat} (h : NumL m) (k : Nat) : -400000000 ≤ primV m C i k ∧ primV m C i k ≤ 400000000 := tdiv_num' (cell_num h C i k)
theorem primR_num {m : List Int} {C i : Nat} (h : NumL m) : NumL (primR m C i) := by
 unfold primR
 split
 ·exact h
 ·intro x hx
  rcases updR_mem hx with hx | ⟨k, _, rfl⟩
  ·exact h x hx
  ·exact primV_num h k
theorem primAll_len (m : List Int) (C : Nat) : ∀ n, (primAll m C n).length = m.length
 | 0 => rfl
 | n + 1 => by simp only [primAll]; rw [primR_len, primAll_len m C n]
theorem primAll_num {m : List Int} {C : Nat} (h : NumL m) : ∀ n, NumL (primAll m C n)
 | 0 => h
 | n + 1 => primR_num (primAll_num h n)
theorem rowG_num {m : List Int} {C i : Nat} (h : NumL m) : ∀ n, rowG m C i n ≤ 400000000
 | 0 => by simp [rowG]
 | n + 1 => by
  simp only [rowG]
  by_cases h0 : (cell m C i n).natAbs = 0
  ·rw [h0, Nat.gcd_zero_right]; exact rowG_num h n
  ·have h1 := Nat.gcd_le_right (rowG m C i n) (show 0 < (cell m C i n).natAbs by omega)
   have h2 := cell_num h C i n
   omega
theorem rowG_zero {m : List Int} {C i : Nat} : ∀ {n : Nat}, rowG m C i n = 0 ↔ ∀ k, k < n → cell m C i k = 0
 | 0 => by simp [rowG]
 | n + 1 => by
  simp only [rowG]
  rw [Nat.gcd_eq_zero_iff, rowG_zero (n := n)]
  constructor
  ·rintro ⟨h1, h2⟩ k hk
   by_cases e : k = n
   ·subst e; omega
   ·exact h1 k (by omega)
  ·intro h
   exact ⟨fun k hk => h k (by omega), by have := h n (by omega); omega⟩
theorem rowG_step (m : List Int) (C i n : Nat) : gI ((rowG m C i n : Nat) : Int) (cell m C i n) = ((rowG m C i (n + 1) : Nat) : Int) := by
 unfold gI Int.gcd
 simp [rowG]
def elG (m : List Int) (C i t j : Nat) : Int := gI (cell m C i j) (cell m C t j)
def elW (m : List Int) (C i t j k : Nat) : Int := (cell m C t j).tdiv (elG m C i t j) * cell m C i k - (cell m C i j).tdiv (elG m C i t j) * cell m C t k
def elWok (m : List Int) (C i t j : Nat) : Bool := (List.range C).all fun k => isNumB (elW m C i t j k)
def elRow (m : List Int) (C i t j : Nat) : List Int := primR (updR (elW m C i t j) (i * C) C m) C i
def ecElim (C j t : Nat) : Nat → List Int → Option (List Int)
 | 0, m => some m
 | n + 1, m => match ecElim C j t n m with
  | none => none
  | some m' => if n = t ∨ cell m' C n j = 0 then some m' else if elWok m' C n t j = true then some (elRow m' C n t j) else none
def ecN (C R : Nat) : Nat → Nat → Nat → List Int → Option (Nat × List Int)
 | 0, _, t, m => some (t, m)
 | n + 1, j, t, m => if t < R then (if elK m C j (R - t) t = R then ecN C R n (j + 1) t m else match ecElim C j t R (elM1 m C t (elK m C j (R - t) t)) with
   | none => none
   | some m' => ecN C R n (j + 1) (t + 1) m') else some (t, m)
def echR (m : Mat) : Option (Nat × List Int) := if isMatB m = true then ecN m.cols.toNat m.rows.toNat m.cols.toNat 0 0 (primAll m.cells m.cols.toNat m.rows.toNat) else none
def ecOk (m : Mat) : Bool := (echR m).isSome
def ecT (m : Mat) : Nat := ((echR m).map (·.1)).getD 0
theorem ec_none {m : Mat} (h : echR m = none) : ecOk m = false ∧ ecT m = 0 := by unfold ecOk ecT; rw [h]; exact ⟨rfl, rfl⟩
theorem ec_some {m : Mat} {t : Nat} {x : List Int} (h : echR m = some (t, x)) : ecOk m = true ∧ ecT m = t := by unfold ecOk ecT; rw [h]; exact ⟨rfl, rfl⟩
theorem ecN_full {C R n j t : Nat} {m : List Int} (h : ¬ t < R) : ecN C R n j t m = some (t, m) := by
 cases n with
 | zero => rfl
 | succ n => simp only [ecN]; rw [if_neg h]
theorem ecN_skip {C R n j t k : Nat} {m : List Int} (h : t < R) (hk : k = elK m C j (R - t) t) (hR : k = R) : ecN C R (n + 1) j t m = ecN C R n (j + 1) t m := by
 simp only [ecN]; rw [if_pos h, if_pos (by rw [← hk]; exact hR)]
theorem ecN_none {C R n j t k : Nat} {m : List Int} (h : t < R) (hk : k = elK m C j (R - t) t) (hR : k ≠ R) (hn : ecElim C j t R (elM1 m C t k) = none) : ecN C R (n + 1) j t m = none := by
 simp only [ecN]; rw [if_pos h, if_neg (by rw [← hk]; exact hR), ← hk, hn]
theorem ecN_some {C R n j t k : Nat} {m m' : List Int} (h : t < R) (hk : k = elK m C j (R - t) t) (hR : k ≠ R) (hn : ecElim C j t R (elM1 m C t k) = some m') : ecN C R (n + 1) j t m = ecN C R n (j + 1) (t + 1) m' := by
 simp only [ecN]; rw [if_pos h, if_neg (by rw [← hk]; exact hR), ← hk, hn]
theorem elRow_len (m : List Int) (C i t j : Nat) : (elRow m C i t j).length = m.length := by unfold elRow; rw [primR_len, updR_len]
theorem elWok_iff {m : List Int} {C i t j : Nat} : elWok m C i t j = true ↔ ∀ k, k < C → isNumB (elW m C i t j k) = true := by
 unfold elWok; rw [List.all_eq_true]
 exact ⟨fun h k hk => h k (List.mem_range.2 hk), fun h k hk => h k (List.mem_range.1 hk)⟩
theorem elW_num {m : List Int} {C i t j : Nat} (hm : NumL m) (h : elWok m C i t j = true) : NumL (updR (elW m C i t j) (i * C) C m) := fun x hx => by
 rcases updR_mem hx with hx | ⟨k, hk, rfl⟩
 ·exact hm x hx
 ·exact isNumB_iff.1 (elWok_iff.1 h k hk)
theorem elRow_num {m : List Int} {C i t j : Nat} (hm : NumL m) (h : elWok m C i t j = true) : NumL (elRow m C i t j) := primR_num (elW_num hm h)
theorem elG_num {m : List Int} {C i t j : Nat} (hm : NumL m) : 0 ≤ elG m C i t j ∧ elG m C i t j ≤ 400000000 := by
 unfold elG gI Int.gcd
 have h1 := cell_num hm C i j
 have h2 := cell_num hm C t j
 refine ⟨by omega, ?_⟩
 by_cases h0 : (cell m C t j).natAbs = 0
 ·rw [h0, Nat.gcd_zero_right]; omega
 ·have := Nat.gcd_le_right (cell m C i j).natAbs (show 0 < (cell m C t j).natAbs by omega)
  omega
theorem elG_pos {m : List Int} {C i t j : Nat} (h : cell m C i j ≠ 0) : elG m C i t j ≠ 0 := by
 unfold elG gI Int.gcd
 have := Nat.gcd_pos_of_pos_left (cell m C t j).natAbs (show 0 < (cell m C i j).natAbs by omega)
 omega
theorem elim_skip {C j t n : Nat} {m m' : List Int} (h : ecElim C j t n m = some m') (h1 : n = t ∨ cell m' C n j = 0) : ecElim C j t (n + 1) m = some m' := by
 simp only [ecElim]; rw [h]; simp only; rw [if_pos h1]
theorem elim_no {C j t n : Nat} {m m' : List Int} (h : ecElim C j t n m = some m') (h1 : ¬ (n = t ∨ cell m' C n j = 0)) (h2 : elWok m' C n t j = false) : ecElim C j t (n + 1) m = none := by
 simp only [ecElim]; rw [h]; simp only; rw [if_neg h1, h2]; rfl
theorem elim_yes {C j t n : Nat} {m m' : List Int} (h : ecElim C j t n m = some m') (h1 : ¬ (n = t ∨ cell m' C n j = 0)) (h2 : elWok m' C n t j = true) : ecElim C j t (n + 1) m = some (elRow m' C n t j) := by
 simp only [ecElim]; rw [h]; simp only; rw [if_neg h1, if_pos h2]
theorem elim_dead {C j t : Nat} {m : List Int} {n : Nat} (h : ecElim C j t n m = none) : ∀ {d : Nat}, ecElim C j t (n + d) m = none
 | 0 => h
 | d + 1 => by
  show ecElim C j t ((n + d) + 1) m = none
  simp only [ecElim]; rw [elim_dead h (d := d)]
end Go.Proofs.Ytneeelebnnfbeaa
