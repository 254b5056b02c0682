/-
  The law FnExactBettiOf returns true for all arguments: the program's BettiOf and the reference's return the same; arguments stay. No condition.
-/
import Derived.Test.YtneeelebnnfbeaaZBetQ
import Derived.Test.YtneeelebnnfbeaaZBase
set_option maxHeartbeats 8000000
set_option maxRecDepth 100000
namespace Go.Proofs.Ytneeelebnnfbeaa.lawBettiOf
open Go.ChangeShapes Go.WideShapes Go.ChangeAt Go.RowKit
theorem walk (lv : Value) (l : List (List Int)) (k : Int) (w : World) (hl0 : VII w (fun _ => True) lv l) (_hk : I64 k) :
  Calls Try.prog 3 #[lv, .int .i64 k] w fun e w' => e = .returned (.bool true) ∧ Grow w w' := by
 have hs0 : w.heap.size ≤ w.heap.size := Nat.le_refl _
 have hAl : VII w (fun b => b < w.heap.size) lv l := hl0.weak fun _ hb _ => hb
 clear hl0
 by_cases hbl : szII' 1048576 l < 0
 ·skip
  go_enter Try.func3, Try.ntmps3
  go_wp2_with fail
  refine (sz_II hAl (by omega) (by omega)).mono ?_; rintro e w' ⟨rfl, rfl⟩
  go_wp2_with fail
  all_goals (go_ret; exact ⟨rfl, Grow.refl _⟩)
 have hzl := sz_II_ok (l := l) (left := 1048576) (by omega)
 have hBl : bdII l ≤ 1048576 := by omega
 go_enter Try.func3, Try.ntmps3
 go_wp2_with fail
 refine (sz_II hAl (by omega) (by omega)).mono ?_; rintro e w' ⟨rfl, rfl⟩
 go_wp2_with fail
 refine (to_II hAl hBl).mono ?_
 rintro e w1 ⟨tl, rfl, hCl, hG1⟩
 have hs1 := hG1.size
 replace hAl := hAl.grow hG1
 have hT := hG1
 clear hG1
 go_wp2_with fail
 refine (specBettiOf_v (hCl.rd (S := fun _ => True) fun _ _ => trivial) hBl _hk).mono ?_
 rintro e w2 ⟨rfl, hG2⟩
 have hs2 := hG2.size
 replace hAl := hAl.grow hG2
 replace hT := hT.trans hG2
 clear hG2
 clear hCl
 go_wp2_with fail
 refine (to_II hAl hBl).mono ?_
 rintro e w3 ⟨xl, rfl, hXl, hG3⟩
 have hs3 := hG3.size
 replace hAl := hAl.grow hG3
 replace hT := hT.trans hG3
 clear hG3
 go_wp2_with fail
 refine (implBettiOf_v (hXl.rd (S := fun _ => True) fun _ _ => trivial) hBl _hk).mono ?_
 rintro e w4 ⟨rfl, hG4⟩
 have hs4 := hG4.size
 replace hAl := hAl.grow hG4
 replace hXl := hXl.grow hG4
 replace hT := hT.trans hG4
 clear hG4
 go_wp2_with fail
 refine (to_II hAl hBl).mono ?_
 rintro e w5 ⟨tl, rfl, hCl, hG5⟩
 have hs5 := hG5.size
 replace hAl := hAl.grow hG5
 replace hXl := hXl.grow hG5
 replace hT := hT.trans hG5
 clear hG5
 go_wp2_with fail
 refine (eq_II (hXl.rd (S := fun _ => True) fun _ _ => trivial) (hCl.rd (S := fun _ => True) fun _ _ => trivial) (by omega)).mono ?_
 rintro e w6 ⟨rfl, hG6⟩
 have hs6 := hG6.size
 replace hAl := hAl.grow hG6
 replace hXl := hXl.grow hG6
 replace hT := hT.trans hG6
 clear hG6
 clear hCl
 go_wp2_with fail
 go_ret
 exact ⟨rfl, hT⟩
theorem lifted (os : Os) (started : os.Started) (H : Type) (enc : TypeId × Value → H) :
  ReturnsInHanded {} Try.checked os 3 .any (Rows.fnExactBettiOfSpec.pre6 enc Try.prog Try.f3 Rows.fnExactBettiOfRow.domain false) (Rows.fnExactBettiOfSpec.post enc Try.prog Try.f3 false true false false) := by
 refine law_close (C := Try.checked) (tb := 4) P_own started (by kernel_rfl) Try.func3
  (ChangeSpec.witness6 (enc := enc) (C := Try.checked) false ⟨#[], #[.slice none 0 0, .int .i64 0], []⟩ 8 (by kernel_rfl) (by kernel_rfl) (by kernel_rfl) (by kernel_rfl))
  P_laid ?_ rfl Try.underlying4 rfl ?_ ?_
 ·exact of_decide_eq_true (by kernel_rfl)
 ·intro ds hds
  match ds, hds with
  | [d0, d1], _ => rfl
 ·intro W args ds ps hval0 hA0
  have hval : ∀ (j : Nat) t v, Try.f3.params[j]? = some t → args[j]? = some v → Value.okWide Try.prog W .any 0 t v := hval0
  have hA : DataW.TrodAll enc Try.prog W 0 (fun _ => true) true Try.f3.params.toList args.toList ds ps := hA0
  rw [Try.params3] at hA hval
  obtain ⟨v0, vs0, d0, ds0, p0, q0, hargs, rfl, rfl, h0, r0⟩ := trodAll_cons hA
  obtain ⟨v1, vs1, d1, ds1, p1, q1, rfl, rfl, rfl, h1, r1⟩ := trodAll_cons r0
  obtain ⟨rfl, rfl, rfl⟩ := trodAll_nil r1
  obtain rfl : args = #[v0, v1] := by cases args; simp_all
  obtain ⟨x0a, x0n, x0c, x0, rfl, hx0⟩ := openII Try.underlying22 Try.underlying30 Try.underlying3 cells_ints cells_int (hval 0 22 v0 rfl rfl) h0
  obtain ⟨x1, rfl, _, _, wx1⟩ := open_int Try.underlying3 (hval 1 3 v1 rfl rfl) h1
  exact walk _ x0 x1 W ⟨_, _, _, rfl, hx0⟩ (wf_I64 wx1)
theorem proved : Rows.FnExactBettiOfSaid :=
 OpenClaim.holds_of_wide 3 Try.f3 rfl rfl rfl rfl rfl rfl rfl ⟨rfl, rfl, rfl, rfl, rfl⟩ rfl rfl rfl rfl rfl (by kernel_rfl) Try.func3 (by kernel_rfl)
  (of_decide_eq_true (by kernel_rfl)) (by unfold Func.isWrapper; first | (rw [if_pos (by decide +kernel)]; kernel_rfl) | (rw [if_neg (by decide +kernel)]; exact ⟨rfl, rfl⟩))
  (fun os started H enc _ => lifted os started H enc)
end Go.Proofs.Ytneeelebnnfbeaa.lawBettiOf
