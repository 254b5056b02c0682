/-
  The law FnExactIsSheet returns true for all arguments: the program's IsSheet and the reference's return the same; arguments stay.
-/
import Derived.Test.YtlpkcdgkkjmagaaSheetI
import Derived.Test.YtlpkcdgkkjmagaaSheetS
import Derived.Test.YtlpkcdgkkjmagaaDefO
namespace Go.Proofs.Ytlpkcdgkkjmagaa
open Go.RowKit
theorem bdDD_cells {l : List Dfn} (hb : bdDD l ≤ 1048576) : ∀ d ∈ l, d.value.cells.length ≤ 2097152 := by
  intro d hd
  obtain ⟨k, hk, he⟩ := List.mem_iff_getElem.1 hd
  have h1 := (bdDs_at (List.getElem?_eq_some_iff.2 ⟨hk, he⟩)).2
  unfold bdDD at hb
  unfold bdD at h1
  omega
theorem specIsSheet_v {S : Nat → Prop} {v : Value} {l : List Dfn} {w : World} (h : VDD w S v l) (hb : bdDD l ≤ 1048576) :
    Calls Try.prog 18 #[v] w fun e w' => e = .returned (.bool (sheetB l)) ∧ Grow w w' := by
  obtain ⟨a, n, c, rfl, h⟩ := h
  have hl := h.len
  have hc := bdDD_cells hb
  unfold bdDD at hb
  exact specIsSheet_c a n c l w h (by omega) hc
theorem implIsSheet_v {S : Nat → Prop} {v : Value} {l : List Dfn} {w : World} (h : VDD w S v l) (hb : bdDD l ≤ 1048576) :
    Calls Try.prog 19 #[v] w fun e w' => e = .returned (.bool (sheetB l)) ∧ Grow w w' := by
  obtain ⟨a, n, c, rfl, h⟩ := h
  have hl := h.len
  have hc := bdDD_cells hb
  unfold bdDD at hb
  exact implIsSheet_c a n c l w h (by omega) hc
end Go.Proofs.Ytlpkcdgkkjmagaa
namespace Go.Proofs.Ytlpkcdgkkjmagaa.lawIsSheet
open Go.ChangeShapes Go.WideShapes Go.ChangeAt Go.RowKit

set_option maxHeartbeats 4000000 in
theorem walk (lv : Value) (l : List Dfn) (w : World) (hl0 : VDD w (fun _ => True) lv l) :
    Calls Try.prog 5 #[lv] w fun e w' => e = .returned (.bool true) ∧ Grow w w' := by
  have hs0 : w.heap.size ≤ w.heap.size := Nat.le_refl _
  have hAl : VDD w (fun b => b < w.heap.size) lv l := hl0.weak fun _ hb _ => hb
  clear hl0
  by_cases hbl : szDD 1048576 l < 0
  · skip
    go_enter Try.func5, Try.ntmps5
    go_wp2_with fail
    refine (sz_DD hAl (by omega) (by omega)).mono ?_; rintro e wz0 ⟨rfl, hGz0⟩; have hsz0 := hGz0.size; have hT := hGz0; replace hAl := hAl.grow hGz0; clear hGz0
    go_wp2_with fail
    all_goals (go_ret; exact ⟨rfl, hT⟩)
  have hzl := sz_DD_ok (l := l) (left := 1048576) (by omega)
  have hBl : bdDD l ≤ 1048576 := by omega
  go_enter Try.func5, Try.ntmps5
  go_wp2_with fail
  refine (sz_DD hAl (by omega) (by omega)).mono ?_; rintro e wz0 ⟨rfl, hGz0⟩; have hsz0 := hGz0.size; have hT := hGz0; replace hAl := hAl.grow hGz0; clear hGz0
  go_wp2_with fail
  refine (to_DD hAl hBl).mono ?_
  rintro e w1 ⟨tl, rfl, hCl, hG1⟩
  have hs1 := hG1.size
  replace hAl := hAl.grow hG1
  replace hT := hT.trans hG1
  clear hG1
  go_wp2_with fail
  refine (specIsSheet_v (hCl.rd (S := fun _ => True) fun _ _ => trivial) hBl).mono ?_
  rintro e w2 ⟨rfl, hG2⟩
  have hs2 := hG2.size
  replace hAl := hAl.grow hG2
  replace hT := hT.trans hG2
  clear hG2
  clear hCl
  go_wp2_with fail
  refine (to_DD hAl hBl).mono ?_
  rintro e w3 ⟨xl, rfl, hXl, hG3⟩
  have hs3 := hG3.size
  replace hAl := hAl.grow hG3
  replace hT := hT.trans hG3
  clear hG3
  go_wp2_with fail
  refine (implIsSheet_v (hXl.rd (S := fun _ => True) fun _ _ => trivial) hBl).mono ?_
  rintro e w4 ⟨rfl, hG4⟩
  have hs4 := hG4.size
  replace hAl := hAl.grow hG4
  replace hXl := hXl.grow hG4
  replace hT := hT.trans hG4
  clear hG4
  go_wp2_with fail
  refine (to_DD hAl hBl).mono ?_
  rintro e w5 ⟨tl, rfl, hCl, hG5⟩
  have hs5 := hG5.size
  replace hAl := hAl.grow hG5
  replace hXl := hXl.grow hG5
  replace hT := hT.trans hG5
  clear hG5
  go_wp2_with fail
  refine (eq_DD (hXl.rd (S := fun _ => True) fun _ _ => trivial) (hCl.rd (S := fun _ => True) fun _ _ => trivial) (by omega)).mono ?_
  rintro e w6 ⟨rfl, hG6⟩
  have hs6 := hG6.size
  replace hAl := hAl.grow hG6
  replace hXl := hXl.grow hG6
  replace hT := hT.trans hG6
  clear hG6
  clear hCl
  go_wp2_with fail
  go_ret
  exact ⟨rfl, hT⟩
set_option maxRecDepth 100000 in
theorem lifted (os : Os) (started : os.Started) (H : Type) (enc : TypeId × Value → H) :
    ReturnsInHanded {} Try.checked os 5 .any (Rows.fnExactIsSheetSpec.pre6 enc Try.prog Try.f5 Rows.fnExactIsSheetRow.domain false) (Rows.fnExactIsSheetSpec.post enc Try.prog Try.f5 false true false false) := by
  refine law_close (C := Try.checked) (tb := 4) P_own started (by kernel_rfl) Try.func5
    (ChangeSpec.witness6 (enc := enc) (C := Try.checked) false ⟨#[], #[.slice none 0 0], []⟩ 8 (by kernel_rfl) (by kernel_rfl) (by kernel_rfl) (by kernel_rfl))
    P_laid ?_ rfl Try.underlying4 rfl ?_ ?_
  · exact of_decide_eq_true (by kernel_rfl)
  · intro ds hds
    match ds, hds with
    | [d0], _ => rfl
  · intro W args ds ps hval0 hA0
    have hval : ∀ (j : Nat) t v, Try.f5.params[j]? = some t → args[j]? = some v → Value.okWide Try.prog W .any 0 t v := hval0
    have hA : DataW.TrodAll enc Try.prog W 0 (fun _ => true) true Try.f5.params.toList args.toList ds ps := hA0
    rw [Try.params5] at hA hval
    obtain ⟨v0, vs0, d0, ds0, p0, q0, hargs, rfl, rfl, h0, r0⟩ := trodAll_cons hA
    obtain ⟨rfl, rfl, rfl⟩ := trodAll_nil r0
    obtain rfl : args = #[v0] := by cases args; simp_all
    obtain ⟨x0a, x0n, x0c, x0, rfl, hx0⟩ := openDDx (hval 0 22 v0 rfl rfl) h0
    exact walk _ x0 W ⟨_, _, _, rfl, hx0⟩

theorem proved : Rows.FnExactIsSheetSaid :=
  OpenClaim.holds_of_wide 5 Try.f5 rfl rfl rfl rfl rfl rfl rfl ⟨rfl, rfl, rfl, rfl, rfl⟩ rfl rfl rfl rfl rfl (by kernel_rfl) Try.func5 (by kernel_rfl)
    (of_decide_eq_true (by kernel_rfl)) (by unfold Func.isWrapper; first | (rw [if_pos (by decide +kernel)]; kernel_rfl) | (rw [if_neg (by decide +kernel)]; exact ⟨rfl, rfl⟩))
    (fun os started H enc _ => lifted os started H enc)
end Go.Proofs.Ytlpkcdgkkjmagaa.lawIsSheet
