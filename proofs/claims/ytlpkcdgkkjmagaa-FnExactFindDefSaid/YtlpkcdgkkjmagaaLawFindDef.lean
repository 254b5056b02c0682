/-
  The law FnExactFindDef returns true for all arguments: the program's FindDef and the reference's return the same; arguments stay.
-/
import Derived.Test.YtlpkcdgkkjmagaaFindDef
import Derived.Test.YtlpkcdgkkjmagaaDefO
namespace Go.Proofs.Ytlpkcdgkkjmagaa
open Go.RowKit
theorem specFindDef_v {S : Nat → Prop} {v : Value} {l : List Dfn} {s : ByteArray} {w : World} (h : VDD w S v l) (hb : bdDD l ≤ 1048576) (_hs : s.size ≤ maxLen) :
    Calls Try.prog 9 #[v, .string s] w fun e w' => e = .returned (.int .i64 (findName l s)) ∧ Grow w w' := by
  obtain ⟨a, n, c, rfl, h⟩ := h
  have hl := h.len
  unfold bdDD at hb
  refine (specFindDef_c a n c l s w h (by omega)).mono ?_
  rintro e w' ⟨rfl, rfl⟩
  exact ⟨rfl, Grow.refl _⟩
theorem implFindDef_v {S : Nat → Prop} {v : Value} {l : List Dfn} {s : ByteArray} {w : World} (h : VDD w S v l) (hb : bdDD l ≤ 1048576) (_hs : s.size ≤ maxLen) :
    Calls Try.prog 11 #[v, .string s] w fun e w' => e = .returned (.int .i64 (findName l s)) ∧ Grow w w' := by
  obtain ⟨a, n, c, rfl, h⟩ := h
  have hl := h.len
  unfold bdDD at hb
  exact implFindDef_c a n c l s w h (by omega)
end Go.Proofs.Ytlpkcdgkkjmagaa
namespace Go.Proofs.Ytlpkcdgkkjmagaa.lawFindDef
open Go.ChangeShapes Go.WideShapes Go.ChangeAt Go.RowKit

set_option maxHeartbeats 4000000 in
theorem walk (lv : Value) (l : List Dfn) (s : ByteArray) (w : World) (hl0 : VDD w (fun _ => True) lv l) (hs : s.size ≤ maxLen) :
    Calls Try.prog 3 #[lv, .string s] w fun e w' => e = .returned (.bool true) ∧ Grow w w' := by
  have hs0 : w.heap.size ≤ w.heap.size := Nat.le_refl _
  have hAl : VDD w (fun b => b < w.heap.size) lv l := hl0.weak fun _ hb _ => hb
  clear hl0
  by_cases hbs : 1048576 < s.size
  · skip
    go_enter Try.func3, Try.ntmps3
    go_wp2_with fail
    all_goals (go_ret; exact ⟨rfl, Grow.refl _⟩)
  by_cases hbl : szDD 1048576 l < 0
  · skip
    go_enter Try.func3, Try.ntmps3
    go_wp2_with fail
    refine (sz_DD hAl (by omega) (by omega)).mono ?_; rintro e wz0 ⟨rfl, hGz0⟩; have hsz0 := hGz0.size; have hT := hGz0; replace hAl := hAl.grow hGz0; clear hGz0
    go_wp2_with fail
    all_goals (go_ret; exact ⟨rfl, hT⟩)
  have hzl := sz_DD_ok (l := l) (left := 1048576) (by omega)
  have hBl : bdDD l ≤ 1048576 := by omega
  go_enter Try.func3, Try.ntmps3
  go_wp2_with fail
  refine (sz_DD hAl (by omega) (by omega)).mono ?_; rintro e wz0 ⟨rfl, hGz0⟩; have hsz0 := hGz0.size; have hT := hGz0; replace hAl := hAl.grow hGz0; clear hGz0
  go_wp2_with fail
  refine (to_DD hAl hBl).mono ?_
  rintro e w1 ⟨tl, rfl, hCl, hG1⟩
  have hs1 := hG1.size
  replace hAl := hAl.grow hG1
  replace hT := hT.trans hG1
  clear hG1
  go_wp2_with fail
  refine (specFindDef_v (hCl.rd (S := fun _ => True) fun _ _ => trivial) hBl hs).mono ?_
  rintro e w2 ⟨rfl, hG2⟩
  have hs2 := hG2.size
  replace hAl := hAl.grow hG2
  replace hT := hT.trans hG2
  clear hG2
  clear hCl
  go_wp2_with fail
  refine (to_DD hAl hBl).mono ?_
  rintro e w3 ⟨xl, rfl, hXl, hG3⟩
  have hs3 := hG3.size
  replace hAl := hAl.grow hG3
  replace hT := hT.trans hG3
  clear hG3
  go_wp2_with fail
  refine (implFindDef_v (hXl.rd (S := fun _ => True) fun _ _ => trivial) hBl hs).mono ?_
  rintro e w4 ⟨rfl, hG4⟩
  have hs4 := hG4.size
  replace hAl := hAl.grow hG4
  replace hXl := hXl.grow hG4
  replace hT := hT.trans hG4
  clear hG4
  go_wp2_with fail
  refine (to_DD hAl hBl).mono ?_
  rintro e w5 ⟨tl, rfl, hCl, hG5⟩
  have hs5 := hG5.size
  replace hAl := hAl.grow hG5
  replace hXl := hXl.grow hG5
  replace hT := hT.trans hG5
  clear hG5
  go_wp2_with fail
  refine (eq_DD (hXl.rd (S := fun _ => True) fun _ _ => trivial) (hCl.rd (S := fun _ => True) fun _ _ => trivial) (by omega)).mono ?_
  rintro e w6 ⟨rfl, hG6⟩
  have hs6 := hG6.size
  replace hAl := hAl.grow hG6
  replace hXl := hXl.grow hG6
  replace hT := hT.trans hG6
  clear hG6
  clear hCl
  go_wp2_with fail
  go_ret
  exact ⟨rfl, hT⟩
set_option maxRecDepth 100000 in
theorem lifted (os : Os) (started : os.Started) (H : Type) (enc : TypeId × Value → H) :
    ReturnsInHanded {} Try.checked os 3 .any (Rows.fnExactFindDefSpec.pre6 enc Try.prog Try.f3 Rows.fnExactFindDefRow.domain false) (Rows.fnExactFindDefSpec.post enc Try.prog Try.f3 false true false false) := by
  refine law_close (C := Try.checked) (tb := 4) P_own started (by kernel_rfl) Try.func3
    (ChangeSpec.witness6 (enc := enc) (C := Try.checked) false ⟨#[], #[.slice none 0 0, .string .empty], []⟩ 8 (by kernel_rfl) (by kernel_rfl) (by kernel_rfl) (by kernel_rfl))
    P_laid ?_ rfl Try.underlying4 rfl ?_ ?_
  · exact of_decide_eq_true (by kernel_rfl)
  · intro ds hds
    match ds, hds with
    | [d0, d1], _ => rfl
  · intro W args ds ps hval0 hA0
    have hval : ∀ (j : Nat) t v, Try.f3.params[j]? = some t → args[j]? = some v → Value.okWide Try.prog W .any 0 t v := hval0
    have hA : DataW.TrodAll enc Try.prog W 0 (fun _ => true) true Try.f3.params.toList args.toList ds ps := hA0
    rw [Try.params3] at hA hval
    obtain ⟨v0, vs0, d0, ds0, p0, q0, hargs, rfl, rfl, h0, r0⟩ := trodAll_cons hA
    obtain ⟨v1, vs1, d1, ds1, p1, q1, rfl, rfl, rfl, h1, r1⟩ := trodAll_cons r0
    obtain ⟨rfl, rfl, rfl⟩ := trodAll_nil r1
    obtain rfl : args = #[v0, v1] := by cases args; simp_all
    obtain ⟨x0a, x0n, x0c, x0, rfl, hx0⟩ := openDDx (hval 0 22 v0 rfl rfl) h0
    obtain ⟨x1, rfl, _, _, hx1⟩ := Go.ChangeMaps.open_string Try.underlying9 (hval 1 9 v1 rfl rfl) h1
    exact walk _ x0 x1 W ⟨_, _, _, rfl, hx0⟩ hx1

theorem proved : Rows.FnExactFindDefSaid :=
  OpenClaim.holds_of_wide 3 Try.f3 rfl rfl rfl rfl rfl rfl rfl ⟨rfl, rfl, rfl, rfl, rfl⟩ rfl rfl rfl rfl rfl (by kernel_rfl) Try.func3 (by kernel_rfl)
    (of_decide_eq_true (by kernel_rfl)) (by unfold Func.isWrapper; first | (rw [if_pos (by decide +kernel)]; kernel_rfl) | (rw [if_neg (by decide +kernel)]; exact ⟨rfl, rfl⟩))
    (fun os started H enc _ => lifted os started H enc)
end Go.Proofs.Ytlpkcdgkkjmagaa.lawFindDef
