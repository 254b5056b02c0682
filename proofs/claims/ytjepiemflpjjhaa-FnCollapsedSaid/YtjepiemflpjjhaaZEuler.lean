/-
  EulerOf: simplices with an odd number of vertices less the others; 0 for what is no complex.
-/
import Derived.Test.YtjepiemflpjjhaaZOrder
set_option maxHeartbeats 8000000
set_option maxRecDepth 100000
namespace Go.Proofs.Ytjepiemflpjjhaa
open Go.RowKit
def signOf (s : List Int) : Int := if s.length % 2 = 1 then 1 else -1
def eulS (l : List (List Int)) : Int := (l.map signOf).sum
noncomputable def eulB (l : List (List Int)) : Int := if isCplxB l = true then eulS l else 0
theorem eulS_snoc {l : List (List Int)} {k : Nat} {x : List Int} (h : l[k]? = some x) : eulS (l.take (k + 1)) = eulS (l.take k) + signOf x := by
 unfold eulS; rw [take_succ h]; simp
theorem eulS_rng (l : List (List Int)) (k : Nat) : -(k : Int) ≤ eulS (l.take k) ∧ eulS (l.take k) ≤ k := by
 induction k with
 | zero => simp [eulS]
 | succ k ih =>
  by_cases h : k < l.length
  ·rw [eulS_snoc (List.getElem?_eq_getElem h)]
   have : signOf l[k] = 1 ∨ signOf l[k] = -1 := by unfold signOf; split <;> simp
   omega
  ·have e : l.take (k + 1) = l.take k := by rw [List.take_of_length_le (by omega), List.take_of_length_le (by omega)]
   rw [e]; omega
theorem specEulerOf_c {S : Nat → Prop} (a : Option Addr) (n cap : Nat) (l : List (List Int)) (w : World) (h : RdII w S a n cap l) (hn : n ≤ 1048576) (ht : total l ≤ 1048576) :
  Calls Try.prog 14 #[.slice a n cap] w fun e w' => e = .returned (.int .i64 (eulB l)) ∧ Grow w w' := by
 have hl := h.len
 cases hB : isCplxB l with
 | false =>
  have he : eulB l = 0 := by unfold eulB; rw [hB]; rfl
  have He := Lib.hid he; clear he
  have HB := Lib.hid hB; clear hB
  by_cases hn0 : 0 < n
  ·go_enter Try.func14, Try.ntmps14
   go_wp2
   refine wp_loop_rounds 1 ?_
   rw [rounds_succ]
   go_wp2_with fail
   refine (specIsComplex_c _ _ _ l _ h hn ht).mono ?_
   rintro e w1 ⟨rfl, hG⟩
   rw [HB.out]
   go_wp2
   go_ret
   exact ⟨ret_int (by rw [He.out]), hG⟩
  ·go_enter Try.func14, Try.ntmps14
   go_wp2
   refine wp_loop_rounds 1 ?_
   rw [rounds_succ]
   go_wp2
   go_ret
   exact ⟨ret_int (by rw [He.out]), Grow.refl _⟩
 | true =>
  have he : eulB l = eulS l := by unfold eulB; rw [hB]; rfl
  have He := Lib.hid he; clear he
  have HB := Lib.hid hB; clear hB
  go_enter Try.func14, Try.ntmps14
  go_wp2
  go_loopw [3, 4] (fun q i wr => Grow w wr ∧ ∃ k : Nat, k ≤ n ∧ i = .int .i64 k ∧ q = .int .i64 (eulS (l.take k))) (fun _ i _ => n - (intOf i).toNat)
  case atStart => exact ⟨Grow.refl _, 0, Nat.zero_le _, rfl, rfl⟩
  case round =>
   obtain ⟨hG, k, hk, rfl, rfl⟩ := hrel
   have hr := eulS_rng l k
   by_cases hlt : k < n
   ·obtain ⟨b, off, x, a1, c1, rfl, hx, _, hbw, hc, hrd⟩ := (h.grow hG).at hlt
    have hs := Lib.hid (eulS_snoc hx)
    have hxl : x.length ≤ 1048576 := by have := total_at hx; omega
    clear hx
    go_wp2_with fail
    refine (specIsComplex_c _ _ _ l _ (h.grow hG) hn ht).mono ?_
    rintro e w1 ⟨rfl, hG1⟩
    rw [HB.out]
    have hc1 := hG1.cell hc
    go_wp2
    go_roundw
    case rel =>
     refine ⟨hG.trans hG1, k + 1, by omega, by go_num, ?_⟩
     rw [hs.out]
     unfold signOf
     split
     ·rename_i e; congr 1; omega
     ·rename_i e; congr 1; omega
    case measure => simp [intOf]; omega
   ·go_wp2
    go_ret
    have : k = n := by omega
    subst this
    exact ⟨ret_int (by rw [He.out, take_all hl]), hG⟩
theorem implEulerOf_c {S : Nat → Prop} (a : Option Addr) (n cap : Nat) (l : List (List Int)) (w : World) (h : RdII w S a n cap l) (hn : n ≤ 1048576) (ht : total l ≤ 1048576) :
  Calls Try.prog 13 #[.slice a n cap] w fun e w' => e = .returned (.int .i64 (eulB l)) ∧ Grow w w' := by
 have hl := h.len
 cases hB : isCplxB l with
 | false =>
  have he : eulB l = 0 := by unfold eulB; rw [hB]; rfl
  have He := Lib.hid he; clear he
  have HB := Lib.hid hB; clear hB
  go_enter Try.func13, Try.ntmps13
  go_wp2_with fail
  refine (implIsComplex_c _ _ _ l _ h hn ht).mono ?_
  rintro e w1 ⟨rfl, hG⟩
  rw [HB.out]
  go_wp2
  go_ret
  exact ⟨ret_int (by rw [He.out]), hG⟩
 | true =>
  have he : eulB l = eulS l := by unfold eulB; rw [hB]; rfl
  have He := Lib.hid he; clear he
  have HB := Lib.hid hB; clear hB
  go_enter Try.func13, Try.ntmps13
  go_wp2_with fail
  refine (implIsComplex_c _ _ _ l _ h hn ht).mono ?_
  rintro e w1 ⟨rfl, hG1⟩
  rw [HB.out]
  go_wp2
  go_loopw [3, 11] (fun q i wr => Grow w wr ∧ ∃ k : Nat, k ≤ n ∧ i = .int .i64 k ∧ q = .int .i64 (eulS (l.take k))) (fun _ i _ => n - (intOf i).toNat)
  case atStart => exact ⟨hG1, 0, Nat.zero_le _, rfl, rfl⟩
  case round =>
   obtain ⟨hG, k, hk, rfl, rfl⟩ := hrel
   have hr := eulS_rng l k
   by_cases hlt : k < n
   ·obtain ⟨b, off, x, a1, c1, rfl, hx, _, hbw, hc, hrd⟩ := (h.grow hG).at hlt
    have hs := Lib.hid (eulS_snoc hx)
    have hxl : x.length ≤ 1048576 := by have := total_at hx; omega
    clear hx
    by_cases hodd : x.length % 2 = 1
    ·have h1 : (((x.length : Int) % 2) == 1) = true := by simp; omega
     go_wp2
     go_roundw
     case rel =>
      refine ⟨hG, k + 1, by omega, by go_num, ?_⟩
      rw [hs.out]; unfold signOf; rw [if_pos (by omega)]
     case measure => simp [intOf]; omega
    ·have h1 : (((x.length : Int) % 2) == 1) = false := by simp; omega
     go_wp2
     go_roundw
     case rel =>
      refine ⟨hG, k + 1, by omega, by go_num, ?_⟩
      rw [hs.out]; unfold signOf; rw [if_neg (by omega)]; rfl
     case measure => simp [intOf]; omega
   ·go_wp2
    go_ret
    have : k = n := by omega
    subst this
    exact ⟨ret_int (by rw [He.out, take_all hl]), hG⟩
end Go.Proofs.Ytjepiemflpjjhaa
