/-
  The normal form of a vector over a basis: plain; the first place of a row that is not 0, both.
-/
import Derived.Test.YtjepiemflpjjhaaGreatZBasI
import Derived.Test.YtjepiemflpjjhaaGreatZBase
import Derived.Test.YtjepiemflpjjhaaGreatZRdc
set_option maxHeartbeats 8000000
set_option maxRecDepth 100000
namespace Go.Proofs.YtjepiemflpjjhaaGreat
open Go.RowKit
structure Bas (m : Mat) (C N : Nat) (b : List Int) : Prop where
 eq : basB m = { rows := (N : Int), cols := (C : Int), cells := b }
 cols : m.cols = (C : Int)
 hC : C ≤ 24
 hN : N ≤ 24
 len : b.length = N * C
 num : NumL b
 full : ∀ i, i < N → ∃ k, k < C ∧ cell b C i k ≠ 0
theorem cell_take {m : List Int} {C t i k : Nat} (hi : i < t) (hk : k < C) : cell (m.take (t * C)) C i k = cell m C i k := by
 have h1 : i * C + k < t * C := place_lt hk hi
 unfold cell
 simp only [List.getD_eq_getElem?_getD, List.getElem?_take]
 rw [if_pos h1]
theorem bas_of {m : Mat} (h : basOk m = true) : ∃ C N b, Bas m C N b := by
 cases hB : isMatB m with
 | false =>
  have := (basB_none (m := m) (by unfold hermR; rw [hB]; rfl)).1
  rw [this] at h; cases h
 | true =>
  obtain ⟨R, C, hmr, hmc, hR, hC, hl, hnum⟩ := isMatB_shape hB
  obtain ⟨mr, mc, cells⟩ := m
  simp only at hmr hmc hl hnum
  subst hmr
  subst hmc
  cases hh : herm cells R C with
  | none =>
   have := (basB_none (m := { rows := (R : Int), cols := (C : Int), cells := cells }) (by rw [hermR_mat hB]; exact hh)).1
   rw [this] at h; cases h
  | some s =>
   obtain ⟨hs, t, ht, hE⟩ := herm_spec hl hnum hh
   have e := ech_last hE R (Nat.le_refl _) ht
   refine ⟨C, t, s.1.take (t * C), ?_, rfl, hC, by omega, ?_, fun x hx => hs.na x (List.mem_of_mem_take hx), fun i hi => ?_⟩
   ·rw [(basB_some hB hh).2, e]
   ·rw [List.length_take, hs.la]
    have := Nat.mul_le_mul_right C ht
    omega
   ·obtain ⟨k, hk, hne⟩ := hE.full i hi
    exact ⟨k, hk, by rw [cell_take hi hk]; exact hne⟩
def fz (xs : List Int) : Nat := xs.findIdx fun x => x != 0
theorem fz_eq {xs : List Int} {k : Nat} {x : Int} (hx : xs[k]? = some x) (hne : x ≠ 0) (hz : ∀ y ∈ xs.take k, y = 0) : fz xs = k := by
 unfold fz
 have hk : k < xs.length := (List.getElem?_eq_some_iff.1 hx).1
 have hxk : xs[k] = x := (List.getElem?_eq_some_iff.1 hx).2
 rw [List.findIdx_eq hk]
 refine ⟨by simp [hxk, hne], fun j hj => ?_⟩
 have hm : xs[j] ∈ xs.take k := by
  rw [List.mem_take_iff_getElem]
  exact ⟨j, by omega, rfl⟩
 simp [hz _ hm]
theorem fz_lt {xs : List Int} (h : ∃ x ∈ xs, x ≠ 0) : fz xs < xs.length := by
 obtain ⟨x, hx, hne⟩ := h
 exact List.findIdx_lt_length_of_exists ⟨x, hx, by simp [hne]⟩
theorem fz_ne {xs : List Int} (h : ∃ x ∈ xs, x ≠ 0) : ∃ x, xs[fz xs]? = some x ∧ x ≠ 0 := by
 have hlt := fz_lt h
 exact ⟨xs[fz xs], List.getElem?_eq_getElem hlt, fun e => by
  have h2 : (fun x : Int => x != 0) xs[fz xs] = true := List.findIdx_getElem (w := hlt)
  simp [e] at h2⟩
theorem fz_zero {xs : List Int} : ∀ y ∈ xs.take (fz xs), y = 0 := fun y hy => by
 rw [List.mem_take_iff_getElem] at hy
 obtain ⟨j, hj, rfl⟩ := hy
 have := List.not_of_lt_findIdx (p := fun x : Int => x != 0) (xs := xs) (i := j) (by unfold fz at hj; omega)
 simpa using this
def fcI (xs : List Int) : Int := if zeroL xs = true then -1 else (fz xs : Nat)
theorem fcI_some {xs : List Int} {k : Nat} {x : Int} (hx : xs[k]? = some x) (hne : x ≠ 0) (hz : ∀ y ∈ xs.take k, y = 0) : fcI xs = (k : Int) := by
 unfold fcI
 rw [zeroL_no hx (by simp [hne]), fz_eq hx hne hz]
 simp
theorem firstCell_c {S : Nat → Prop} (a : Option Addr) (n cap : Nat) (xs : List Int) (w : World) (h : RdI w S a n cap xs) (hn : n ≤ 2097152) :
  Calls Tryz.prog 119 #[.slice a n cap] w fun e w' => e = .returned (.int .i64 (fcI xs)) ∧ w = w' := by
 have hcl : ∀ (x : Int) (w : World), Calls Tryz.prog 141 #[.int .i64 x] w fun e w' => e = .returned (.bool (!(x == 0))) ∧ w = w' := fun x w => by
  by_cases hx : x = 0
  ·subst hx
   go_enter Tryz.func141, Tryz.ntmps141
   go_wp2
   go_ret
   exact ⟨ret_bool rfl, rfl⟩
  ·have e1 : (x == 0) = false := by simp [hx]
   have e2 : (x != 0) = true := by simp [hx]
   clear hx
   go_enter Tryz.func141, Tryz.ntmps141
   go_wp2
   go_ret
   exact ⟨ret_bool (by rw [e1]; rfl), rfl⟩
 have Hl := Lib.hid h.len
 have hidx : Calls Tryz.prog 140 #[.slice a n cap, .func (.func 141) #[] #[]] w fun e w' => e = .returned (.int .i64 (fcI xs)) ∧ w = w' := by
  go_enter Tryz.func140, Tryz.ntmps140
  go_wp2
  go_loop [8] (fun i => ∃ k : Nat, k ≤ n ∧ i = .int .i64 k ∧ ∀ x ∈ xs.take k, (x == 0) = true) (fun i => n - (intOf i).toNat)
  case atStart => exact ⟨0, Nat.zero_le _, rfl, by simp⟩
  case round =>
   obtain ⟨k, hk, rfl, he⟩ := hrel
   have He := Lib.hid he; clear he
   by_cases hlt : k < n
   ·obtain ⟨b, off, x, rfl, hx, hr, _, hb, hc⟩ := h.at hlt
    have Hx := Lib.hid hx; clear hx
    cases h0 : x == 0 with
    | true =>
     have H0 := Lib.hid h0; clear h0
     go_wp2_with fail
     refine (hcl _ _).mono ?_
     rintro e w' ⟨rfl, rfl⟩
     rw [H0.out]
     go_wp2
     go_round
     case rel =>
      refine ⟨k + 1, by omega, by go_num, fun z hz => ?_⟩
      rw [take_succ Hx.out, List.mem_append, List.mem_singleton] at hz
      rcases hz with hz | rfl
      ·exact He.out z hz
      ·exact H0.out
     case measure => simp [intOf]; omega
    | false =>
     have H0 := Lib.hid h0; clear h0
     go_wp2_with fail
     refine (hcl _ _).mono ?_
     rintro e w' ⟨rfl, rfl⟩
     rw [H0.out]
     go_wp2
     go_ret
     exact ⟨by rw [fcI_some Hx.out (by have := H0.out; simpa using this) (fun y hy => by have := He.out y hy; simpa using this)]; rfl, rfl⟩
   ·go_wp2
    go_ret
    have : k = n := by omega
    subst this
    have := He.out
    rw [take_all Hl.out] at this
    exact ⟨by unfold fcI; rw [zeroL_yes this]; rfl, rfl⟩
 go_enter Tryz.func119, Tryz.ntmps119
 go_wp2_with fail
 refine hidx.mono ?_
 rintro e w' ⟨rfl, rfl⟩
 go_wp2
 go_ret
 exact ⟨rfl, rfl⟩
theorem rowL_take {m : List Int} {C R i p : Nat} (hl : m.length = R * C) (hi : i < R) (hz : ∀ k, k < p → cell m C i k = 0) (hp : p ≤ C) : ∀ y ∈ (rowL m C i).take p, y = 0 := fun y hy => by
 rw [List.mem_take_iff_getElem] at hy
 obtain ⟨j, hj, rfl⟩ := hy
 have hjC : j < C := by omega
 have := rowL_at hl hi hjC
 rw [List.getElem?_eq_getElem (by omega)] at this
 rw [Option.some.inj this]
 exact hz j (by omega)
theorem rowL_ex {m : List Int} {C R i : Nat} (hl : m.length = R * C) (hi : i < R) (hf : ∃ k, k < C ∧ cell m C i k ≠ 0) : ∃ x ∈ rowL m C i, x ≠ 0 := by
 obtain ⟨k, hk, hne⟩ := hf
 exact ⟨_, List.mem_of_getElem? (rowL_at hl hi hk), hne⟩
theorem fz_row {m : List Int} {C R i : Nat} (hl : m.length = R * C) (hi : i < R) (hf : ∃ k, k < C ∧ cell m C i k ≠ 0) : fz (rowL m C i) < C ∧ cell m C i (fz (rowL m C i)) ≠ 0 := by
 have h1 := fz_lt (rowL_ex hl hi hf)
 rw [rowL_len hl hi] at h1
 obtain ⟨x, hx, hne⟩ := fz_ne (rowL_ex hl hi hf)
 rw [rowL_at hl hi h1] at hx
 exact ⟨h1, by rw [Option.some.inj hx]; exact hne⟩
theorem fc_row {m : List Int} {C R i : Nat} (hl : m.length = R * C) (hi : i < R) (hf : ∃ k, k < C ∧ cell m C i k ≠ 0) : fcI (rowL m C i) = (fz (rowL m C i) : Nat) := by
 obtain ⟨x, hx, hne⟩ := fz_ne (rowL_ex hl hi hf)
 exact fcI_some hx hne fz_zero
end Go.Proofs.YtjepiemflpjjhaaGreat

namespace Go.Proofs.YtjepiemflpjjhaaGreat
def nrmV (m : List Int) (C i : Nat) (v : List Int) (q : Int) (k : Nat) : Int := v.getD k 0 - cell m C i k * q
def nrmOk (m : List Int) (C i : Nat) (v : List Int) (q : Int) : Bool := (List.range C).all fun k => isNumB (cell m C i k * q) && isNumB (nrmV m C i v q k)
theorem nrmOk_iff {m : List Int} {C i : Nat} {v : List Int} {q : Int} : nrmOk m C i v q = true ↔ ∀ k, k < C → isNumB (cell m C i k * q) = true ∧ isNumB (nrmV m C i v q k) = true := by
 unfold nrmOk; rw [List.all_eq_true]
 constructor
 ·intro h k hk
  have := h k (List.mem_range.2 hk)
  rwa [Bool.and_eq_true] at this
 ·intro h k hk
  have := h k (List.mem_range.1 hk)
  rwa [Bool.and_eq_true]
theorem numsB_L {v : List Int} (h : numsB v = true) : NumL v := fun x hx => isNumB_iff.1 (List.all_eq_true.1 h x hx)
theorem nrmV_num {m : List Int} {C i : Nat} {v : List Int} {q : Int} (hv : NumL v) (h : nrmOk m C i v q = true) : NumL (updR (nrmV m C i v q) 0 C v) := fun x hx => by
 rcases updR_mem hx with hx | ⟨k, hk, rfl⟩
 ·exact hv x hx
 ·exact isNumB_iff.1 (nrmOk_iff.1 h k hk).2
end Go.Proofs.YtjepiemflpjjhaaGreat

namespace Go.Proofs.YtjepiemflpjjhaaGreat
open Go.RowKit
theorem OI.empty {w : World} {F : Nat → Prop} {g : Nat} (hg : g = w.heap.size) (hF : F g) : OI (w.alloc (.cells #[] 3)) F (.slice (some ⟨g, 0, none⟩) 0 0) [] :=
 ⟨_, _, _, rfl, Own.freshAt (cs := #[]) hg (by unfold maxLen; omega) rfl, (fun x hx => by cases hx), fun q hq => by simp at hq; subst hq; exact hF⟩
end Go.Proofs.YtjepiemflpjjhaaGreat

namespace Go.Proofs.YtjepiemflpjjhaaGreat
open Go.RowKit
end Go.Proofs.YtjepiemflpjjhaaGreat

namespace Go.Proofs.YtjepiemflpjjhaaGreat
open Go.RowKit
end Go.Proofs.YtjepiemflpjjhaaGreat
