/-
  The law FnExactIsCycle returns true for all arguments: the program's IsCycle and the reference's return the same; arguments stay.
-/
import Derived.Test.YtkafhbedipfgpaaCycleS
import Derived.Test.YtkafhbedipfgpaaSegs
namespace Go.Proofs.Ytkafhbedipfgpaa.lawIsCycle
open Go.ChangeShapes Go.WideShapes Go.ChangeAt Go.RowKit

set_option maxHeartbeats 4000000 in
theorem walk (lv : Value) (l : List (List Int)) (k : Int) (cv : Value) (c : List Int) (w : World) (hl0 : VII w (fun _ => True) lv l) (_hk : I64 k) (hc0 : VI w (fun _ => True) cv c) :
    Calls Try.prog 9 #[lv, .int .i64 k, cv] w fun e w' => e = .returned (.bool true) ∧ Grow w w' := by
  have hs0 : w.heap.size ≤ w.heap.size := Nat.le_refl _
  have hAl : VII w (fun b => b < w.heap.size) lv l := hl0.weak fun _ hb _ => hb
  have hAc : VI w (fun b => b < w.heap.size) cv c := hc0.weak fun _ hb _ => hb
  clear hl0
  clear hc0
  obtain ⟨ca, cn, cc, rfl, hRc⟩ := hAc
  have hlc := hRc.len
  by_cases hbc : 1048576 < cn
  · skip
    go_enter Try.func9, Try.ntmps9
    go_wp2_with fail
    all_goals (go_ret; exact ⟨rfl, Grow.refl _⟩)
  have hAc : VI w (fun b => b < w.heap.size) (.slice ca cn cc) c := ⟨_, _, _, rfl, hRc⟩
  have hBc : bdI c ≤ 1048576 := by unfold bdI; omega
  clear hRc
  by_cases hbl : szII' 1048576 l < 0
  · skip
    go_enter Try.func9, Try.ntmps9
    go_wp2_with fail
    refine (sz_II hAl (by omega) (by omega)).mono ?_; rintro e w' ⟨rfl, rfl⟩
    go_wp2_with fail
    all_goals (go_ret; exact ⟨rfl, Grow.refl _⟩)
  have hzl := sz_II_ok (l := l) (left := 1048576) (by omega)
  have hBl : bdII l ≤ 1048576 := by omega
  go_enter Try.func9, Try.ntmps9
  go_wp2_with fail
  refine (sz_II hAl (by omega) (by omega)).mono ?_; rintro e w' ⟨rfl, rfl⟩
  go_wp2_with fail
  refine (to_II hAl hBl).mono ?_
  rintro e w1 ⟨tl, rfl, hCl, hG1⟩
  have hs1 := hG1.size
  replace hAl := hAl.grow hG1
  replace hAc := hAc.grow hG1
  have hT := hG1
  clear hG1
  go_wp2_with fail
  refine (to_I hAc hBc).mono ?_
  rintro e w2 ⟨tc, rfl, hCc, hG2⟩
  have hs2 := hG2.size
  replace hAl := hAl.grow hG2
  replace hAc := hAc.grow hG2
  replace hCl := hCl.grow hG2
  replace hT := hT.trans hG2
  clear hG2
  go_wp2_with fail
  refine (specIsCycle_c (hCl.rd (S := fun _ => True) fun _ _ => trivial) hBl _hk (hCc.rd (S := fun _ => True) fun _ _ => trivial) hBc).mono ?_
  rintro e w3 ⟨rfl, hG3⟩
  have hs3 := hG3.size
  replace hAl := hAl.grow hG3
  replace hAc := hAc.grow hG3
  replace hT := hT.trans hG3
  clear hG3
  clear hCl
  clear hCc
  go_wp2_with fail
  refine (to_II hAl hBl).mono ?_
  rintro e w4 ⟨xl, rfl, hXl, hG4⟩
  have hs4 := hG4.size
  replace hAl := hAl.grow hG4
  replace hAc := hAc.grow hG4
  replace hT := hT.trans hG4
  clear hG4
  go_wp2_with fail
  refine (to_I hAc hBc).mono ?_
  rintro e w5 ⟨xc, rfl, hXc, hG5⟩
  have hs5 := hG5.size
  replace hAl := hAl.grow hG5
  replace hAc := hAc.grow hG5
  replace hXl := hXl.grow hG5
  replace hT := hT.trans hG5
  clear hG5
  go_wp2_with fail
  refine (implIsCycle_c (hXl.rd (S := fun _ => True) fun _ _ => trivial) hBl _hk (hXc.rd (S := fun _ => True) fun _ _ => trivial) hBc).mono ?_
  rintro e w6 ⟨rfl, hG6⟩
  have hs6 := hG6.size
  replace hAl := hAl.grow hG6
  replace hAc := hAc.grow hG6
  replace hXl := hXl.grow hG6
  replace hXc := hXc.grow hG6
  replace hT := hT.trans hG6
  clear hG6
  go_wp2_with fail
  refine (to_II hAl hBl).mono ?_
  rintro e w7 ⟨tl, rfl, hCl, hG7⟩
  have hs7 := hG7.size
  replace hAl := hAl.grow hG7
  replace hAc := hAc.grow hG7
  replace hXl := hXl.grow hG7
  replace hXc := hXc.grow hG7
  replace hT := hT.trans hG7
  clear hG7
  go_wp2_with fail
  refine (eq_II (hXl.rd (S := fun _ => True) fun _ _ => trivial) (hCl.rd (S := fun _ => True) fun _ _ => trivial) (by omega)).mono ?_
  rintro e w8 ⟨rfl, hG8⟩
  have hs8 := hG8.size
  replace hAl := hAl.grow hG8
  replace hAc := hAc.grow hG8
  replace hXl := hXl.grow hG8
  replace hXc := hXc.grow hG8
  replace hT := hT.trans hG8
  clear hG8
  clear hCl
  go_wp2_with fail
  refine (to_I hAc hBc).mono ?_
  rintro e w9 ⟨tc, rfl, hCc, hG9⟩
  have hs9 := hG9.size
  replace hAl := hAl.grow hG9
  replace hAc := hAc.grow hG9
  replace hXl := hXl.grow hG9
  replace hXc := hXc.grow hG9
  replace hT := hT.trans hG9
  clear hG9
  go_wp2_with fail
  refine (eq_I (hXc.rd (S := fun _ => True) fun _ _ => trivial) (hCc.rd (S := fun _ => True) fun _ _ => trivial) (by omega)).mono ?_
  rintro e w10 ⟨rfl, hG10⟩
  have hs10 := hG10.size
  replace hAl := hAl.grow hG10
  replace hAc := hAc.grow hG10
  replace hXl := hXl.grow hG10
  replace hXc := hXc.grow hG10
  replace hT := hT.trans hG10
  clear hG10
  clear hCc
  go_wp2_with fail
  go_ret
  exact ⟨rfl, hT⟩
set_option maxRecDepth 100000 in
theorem lifted (os : Os) (started : os.Started) (H : Type) (enc : TypeId × Value → H) :
    ReturnsInHanded {} Try.checked os 9 .any (Rows.fnExactIsCycleSpec.pre6 enc Try.prog Try.f9 Rows.fnExactIsCycleRow.domain false) (Rows.fnExactIsCycleSpec.post enc Try.prog Try.f9 false true false false) := by
  refine law_close (C := Try.checked) (tb := 4) P_own started (by kernel_rfl) Try.func9
    (ChangeSpec.witness6 (enc := enc) (C := Try.checked) false ⟨#[], #[.slice none 0 0, .int .i64 0, .slice none 0 0], []⟩ 8 (by kernel_rfl) (by kernel_rfl) (by kernel_rfl) (by kernel_rfl))
    P_laid ?_ rfl Try.underlying4 rfl ?_ ?_
  · exact of_decide_eq_true (by kernel_rfl)
  · intro ds hds
    match ds, hds with
    | [d0, d1, d2], _ => rfl
  · intro W args ds ps hval0 hA0
    have hval : ∀ (j : Nat) t v, Try.f9.params[j]? = some t → args[j]? = some v → Value.okWide Try.prog W .any 0 t v := hval0
    have hA : DataW.TrodAll enc Try.prog W 0 (fun _ => true) true Try.f9.params.toList args.toList ds ps := hA0
    rw [Try.params9] at hA hval
    obtain ⟨v0, vs0, d0, ds0, p0, q0, hargs, rfl, rfl, h0, r0⟩ := trodAll_cons hA
    obtain ⟨v1, vs1, d1, ds1, p1, q1, rfl, rfl, rfl, h1, r1⟩ := trodAll_cons r0
    obtain ⟨v2, vs2, d2, ds2, p2, q2, rfl, rfl, rfl, h2, r2⟩ := trodAll_cons r1
    obtain ⟨rfl, rfl, rfl⟩ := trodAll_nil r2
    obtain rfl : args = #[v0, v1, v2] := by cases args; simp_all
    obtain ⟨x0a, x0n, x0c, x0, rfl, hx0⟩ := openII Try.underlying22 Try.underlying28 Try.underlying3 cells_ints cells_int (hval 0 22 v0 rfl rfl) h0
    obtain ⟨x1, rfl, _, _, wx1⟩ := open_int Try.underlying3 (hval 1 3 v1 rfl rfl) h1
    obtain ⟨x2a, x2n, x2c, x2, rfl, hx2⟩ := openI Try.underlying28 Try.underlying3 cells_int (hval 2 28 v2 rfl rfl) h2
    exact walk _ x0 x1 _ x2 W ⟨_, _, _, rfl, hx0⟩ (wf_I64 wx1) ⟨_, _, _, rfl, hx2⟩

theorem proved : Rows.FnExactIsCycleSaid :=
  OpenClaim.holds_of_wide 9 Try.f9 rfl rfl rfl rfl rfl rfl rfl ⟨rfl, rfl, rfl, rfl, rfl⟩ rfl rfl rfl rfl rfl (by kernel_rfl) Try.func9 (by kernel_rfl)
    (of_decide_eq_true (by kernel_rfl)) (by unfold Func.isWrapper; first | (rw [if_pos (by decide +kernel)]; kernel_rfl) | (rw [if_neg (by decide +kernel)]; exact ⟨rfl, rfl⟩))
    (fun os started H enc _ => lifted os started H enc)
end Go.Proofs.Ytkafhbedipfgpaa.lawIsCycle
