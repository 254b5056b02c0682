/-
  The normal form of a vector over a basis: plain; the first place of a row that is not 0, both.
-/
import Derived.Test.YtneeelebnnfbeaaZBasI
set_option maxHeartbeats 8000000
set_option maxRecDepth 100000
namespace Go.Proofs.Ytneeelebnnfbeaa
open Go.RowKit
structure Bas (m : Mat) (C N : Nat) (b : List Int) : Prop where
 eq : basB m = { rows := (N : Int), cols := (C : Int), cells := b }
 cols : m.cols = (C : Int)
 hC : C ≤ 24
 hN : N ≤ 24
 len : b.length = N * C
 num : NumL b
 full : ∀ i, i < N → ∃ k, k < C ∧ cell b C i k ≠ 0
def fz (xs : List Int) : Nat := xs.findIdx fun x => x != 0
theorem fz_eq {xs : List Int} {k : Nat} {x : Int} (hx : xs[k]? = some x) (hne : x ≠ 0) (hz : ∀ y ∈ xs.take k, y = 0) : fz xs = k := by
 unfold fz
 have hk : k < xs.length := (List.getElem?_eq_some_iff.1 hx).1
 have hxk : xs[k] = x := (List.getElem?_eq_some_iff.1 hx).2
 rw [List.findIdx_eq hk]
 refine ⟨by simp [hxk, hne], fun j hj => ?_⟩
 have hm : xs[j] ∈ xs.take k := by
  rw [List.mem_take_iff_getElem]
  exact ⟨j, by omega, rfl⟩
 simp [hz _ hm]
theorem fz_lt {xs : List Int} (h : ∃ x ∈ xs, x ≠ 0) : fz xs < xs.length := by
 obtain ⟨x, hx, hne⟩ := h
 exact List.findIdx_lt_length_of_exists ⟨x, hx, by simp [hne]⟩
theorem fz_ne {xs : List Int} (h : ∃ x ∈ xs, x ≠ 0) : ∃ x, xs[fz xs]? = some x ∧ x ≠ 0 := by
 have hlt := fz_lt h
 exact ⟨xs[fz xs], List.getElem?_eq_getElem hlt, fun e => by
  have h2 : (fun x : Int => x != 0) xs[fz xs] = true := List.findIdx_getElem (w := hlt)
  simp [e] at h2⟩
theorem fz_zero {xs : List Int} : ∀ y ∈ xs.take (fz xs), y = 0 := fun y hy => by
 rw [List.mem_take_iff_getElem] at hy
 obtain ⟨j, hj, rfl⟩ := hy
 have := List.not_of_lt_findIdx (p := fun x : Int => x != 0) (xs := xs) (i := j) (by unfold fz at hj; omega)
 simpa using this
def fcI (xs : List Int) : Int := if zeroL xs = true then -1 else (fz xs : Nat)
theorem fcI_some {xs : List Int} {k : Nat} {x : Int} (hx : xs[k]? = some x) (hne : x ≠ 0) (hz : ∀ y ∈ xs.take k, y = 0) : fcI xs = (k : Int) := by
 unfold fcI
 rw [zeroL_no hx (by simp [hne]), fz_eq hx hne hz]
 simp
theorem firstCell_c {S : Nat → Prop} (a : Option Addr) (n cap : Nat) (xs : List Int) (w : World) (h : RdI w S a n cap xs) (hn : n ≤ 2097152) :
  Calls Try.prog 57 #[.slice a n cap] w fun e w' => e = .returned (.int .i64 (fcI xs)) ∧ w = w' := by
 have hcl : ∀ (x : Int) (w : World), Calls Try.prog 64 #[.int .i64 x] w fun e w' => e = .returned (.bool (!(x == 0))) ∧ w = w' := fun x w => by
  by_cases hx : x = 0
  ·subst hx
   go_enter Try.func64, Try.ntmps64
   go_wp2
   go_ret
   exact ⟨ret_bool rfl, rfl⟩
  ·have e1 : (x == 0) = false := by simp [hx]
   have e2 : (x != 0) = true := by simp [hx]
   clear hx
   go_enter Try.func64, Try.ntmps64
   go_wp2
   go_ret
   exact ⟨ret_bool (by rw [e1]; rfl), rfl⟩
 have Hl := Lib.hid h.len
 have hidx : Calls Try.prog 63 #[.slice a n cap, .func (.func 64) #[] #[]] w fun e w' => e = .returned (.int .i64 (fcI xs)) ∧ w = w' := by
  go_enter Try.func63, Try.ntmps63
  go_wp2
  go_loop [8] (fun i => ∃ k : Nat, k ≤ n ∧ i = .int .i64 k ∧ ∀ x ∈ xs.take k, (x == 0) = true) (fun i => n - (intOf i).toNat)
  case atStart => exact ⟨0, Nat.zero_le _, rfl, by simp⟩
  case round =>
   obtain ⟨k, hk, rfl, he⟩ := hrel
   have He := Lib.hid he; clear he
   by_cases hlt : k < n
   ·obtain ⟨b, off, x, rfl, hx, hr, _, hb, hc⟩ := h.at hlt
    have Hx := Lib.hid hx; clear hx
    cases h0 : x == 0 with
    | true =>
     have H0 := Lib.hid h0; clear h0
     go_wp2_with fail
     refine (hcl _ _).mono ?_
     rintro e w' ⟨rfl, rfl⟩
     rw [H0.out]
     go_wp2
     go_round
     case rel =>
      refine ⟨k + 1, by omega, by go_num, fun z hz => ?_⟩
      rw [take_succ Hx.out, List.mem_append, List.mem_singleton] at hz
      rcases hz with hz | rfl
      ·exact He.out z hz
      ·exact H0.out
     case measure => simp [intOf]; omega
    | false =>
     have H0 := Lib.hid h0; clear h0
     go_wp2_with fail
     refine (hcl _ _).mono ?_
     rintro e w' ⟨rfl, rfl⟩
     rw [H0.out]
     go_wp2
     go_ret
     exact ⟨by rw [fcI_some Hx.out (by have := H0.out; simpa using this) (fun y hy => by have := He.out y hy; simpa using this)]; rfl, rfl⟩
   ·go_wp2
    go_ret
    have : k = n := by omega
    subst this
    have := He.out
    rw [take_all Hl.out] at this
    exact ⟨by unfold fcI; rw [zeroL_yes this]; rfl, rfl⟩
 go_enter Try.func57, Try.ntmps57
 go_wp2_with fail
 refine hidx.mono ?_
 rintro e w' ⟨rfl, rfl⟩
 go_wp2
 go_ret
 exact ⟨rfl, rfl⟩
theorem rowL_ex {m : List Int} {C R i : Nat} (hl : m.length = R * C) (hi : i < R) (hf : ∃ k, k < C ∧ cell m C i k ≠ 0) : ∃ x ∈ rowL m C i, x ≠ 0 := by
 obtain ⟨k, hk, hne⟩ := hf
 exact ⟨_, List.mem_of_getElem? (rowL_at hl hi hk), hne⟩
theorem fz_row {m : List Int} {C R i : Nat} (hl : m.length = R * C) (hi : i < R) (hf : ∃ k, k < C ∧ cell m C i k ≠ 0) : fz (rowL m C i) < C ∧ cell m C i (fz (rowL m C i)) ≠ 0 := by
 have h1 := fz_lt (rowL_ex hl hi hf)
 rw [rowL_len hl hi] at h1
 obtain ⟨x, hx, hne⟩ := fz_ne (rowL_ex hl hi hf)
 rw [rowL_at hl hi h1] at hx
 exact ⟨h1, by rw [Option.some.inj hx]; exact hne⟩
theorem fc_row {m : List Int} {C R i : Nat} (hl : m.length = R * C) (hi : i < R) (hf : ∃ k, k < C ∧ cell m C i k ≠ 0) : fcI (rowL m C i) = (fz (rowL m C i) : Nat) := by
 obtain ⟨x, hx, hne⟩ := fz_ne (rowL_ex hl hi hf)
 exact fcI_some hx hne fz_zero
end Go.Proofs.Ytneeelebnnfbeaa

namespace Go.Proofs.Ytneeelebnnfbeaa
end Go.Proofs.Ytneeelebnnfbeaa
