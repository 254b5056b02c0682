/-
  The law FnExactCriticalOf returns true for all arguments: the program's CriticalOf and the reference's return the same; arguments stay; results share no memory.
-/
import Derived.Test.YtkafhbedipfgpaaCritical
import Derived.Test.YtkafhbedipfgpaaArrowO
namespace Go.Proofs.Ytkafhbedipfgpaa
open Go.RowKit
theorem specCriticalOf_v {S T : Nat → Prop} {v u : Value} {l : List (List Int)} {ar : List Arw} {w : World} (h : VII w S v l) (hb : bdII l ≤ 1048576) (h' : VAA w T u ar) (hb' : bdAA ar ≤ 1048576) :
    Calls Try.prog 47 #[v, u] w fun e w' => ∃ r, e = .returned (.tuple #[r, .bool (isGradB l ar)]) ∧ VII w' (fun _ => True) r (critB l ar) ∧ Grow w w' := by
  obtain ⟨a, n, c, rfl, h⟩ := h
  obtain ⟨a', n', c', rfl, h'⟩ := h'
  have hl := h.len; have hl' := h'.len
  unfold bdII at hb; unfold bdAA at hb'
  refine (specCriticalOf_c a a' n c n' c' l ar w h h' (by omega) (by omega) (by omega) (by omega)).mono ?_
  rintro e w' ⟨a', m, c', rfl, hS, hG⟩
  exact ⟨_, rfl, ⟨_, _, _, rfl, hS.rdII fun _ _ => trivial⟩, hG⟩
theorem implCriticalOf_v {S T : Nat → Prop} {v u : Value} {l : List (List Int)} {ar : List Arw} {w : World} (h : VII w S v l) (hb : bdII l ≤ 1048576) (h' : VAA w T u ar) (hb' : bdAA ar ≤ 1048576) :
    Calls Try.prog 48 #[v, u] w fun e w' => ∃ r, e = .returned (.tuple #[r, .bool (isGradB l ar)]) ∧ OII w' (New w w') r (critB l ar) ∧ Grow w w' := by
  obtain ⟨a, n, c, rfl, h⟩ := h
  obtain ⟨a', n', c', rfl, h'⟩ := h'
  have hl := h.len; have hl' := h'.len
  unfold bdII at hb; unfold bdAA at hb'
  refine (implCriticalOf_c a a' n c n' c' l ar w h h' (by omega) (by omega) (by omega) (by omega)).mono ?_
  rintro e w' ⟨a', m, c', rfl, hS, hG⟩
  exact ⟨_, rfl, ⟨_, _, _, rfl, hS⟩, hG⟩
end Go.Proofs.Ytkafhbedipfgpaa
namespace Go.Proofs.Ytkafhbedipfgpaa.lawCriticalOf
open Go.ChangeShapes Go.WideShapes Go.ChangeAt Go.RowKit

set_option maxHeartbeats 4000000 in
theorem walk (lv : Value) (l : List (List Int)) (arv : Value) (ar : List (List Int × List Int)) (w : World) (hl0 : VII w (fun _ => True) lv l) (har0 : VAA w (fun _ => True) arv ar) :
    Calls Try.prog 11 #[lv, arv] w fun e w' => e = .returned (.bool true) ∧ Grow w w' := by
  have hs0 : w.heap.size ≤ w.heap.size := Nat.le_refl _
  have hAl : VII w (fun b => b < w.heap.size) lv l := hl0.weak fun _ hb _ => hb
  have hAar : VAA w (fun b => b < w.heap.size) arv ar := har0.weak fun _ hb _ => hb
  clear hl0
  clear har0
  by_cases hbl : szII' 1048576 l < 0
  · skip
    go_enter Try.func11, Try.ntmps11
    go_wp2_with fail
    refine (sz_II hAl (by omega) (by omega)).mono ?_; rintro e w' ⟨rfl, rfl⟩
    go_wp2_with fail
    all_goals (go_ret; exact ⟨rfl, Grow.refl _⟩)
  have hzl := sz_II_ok (l := l) (left := 1048576) (by omega)
  have hBl : bdII l ≤ 1048576 := by omega
  by_cases hbar : szAA (1048576 - (bdII l : Int)) ar < 0
  · skip
    go_enter Try.func11, Try.ntmps11
    go_wp2_with fail
    refine (sz_II hAl (by omega) (by omega)).mono ?_; rintro e w' ⟨rfl, rfl⟩
    go_wp2_with fail
    refine (sz_AA hAar (by omega) (by omega)).mono ?_; rintro e wz1 ⟨rfl, hGz1⟩; have hsz1 := hGz1.size; have hT := hGz1; replace hAl := hAl.grow hGz1; replace hAar := hAar.grow hGz1; clear hGz1
    go_wp2_with fail
    all_goals (go_ret; exact ⟨rfl, hT⟩)
  have hzar := sz_AA_ok (l := ar) (left := (1048576 - (bdII l : Int))) (by omega)
  have hBar : bdAA ar ≤ 1048576 := by omega
  have hB_0 : bdII (critB l ar) ≤ 2097152 := by have := critB_bd l ar; omega
  go_enter Try.func11, Try.ntmps11
  go_wp2_with fail
  refine (sz_II hAl (by omega) (by omega)).mono ?_; rintro e w' ⟨rfl, rfl⟩
  go_wp2_with fail
  refine (sz_AA hAar (by omega) (by omega)).mono ?_; rintro e wz1 ⟨rfl, hGz1⟩; have hsz1 := hGz1.size; have hT := hGz1; replace hAl := hAl.grow hGz1; replace hAar := hAar.grow hGz1; clear hGz1
  go_wp2_with fail
  refine (to_II hAl hBl).mono ?_
  rintro e w1 ⟨tl, rfl, hCl, hG1⟩
  have hs1 := hG1.size
  replace hAl := hAl.grow hG1
  replace hAar := hAar.grow hG1
  replace hT := hT.trans hG1
  clear hG1
  go_wp2_with fail
  refine (to_AA hAar hBar).mono ?_
  rintro e w2 ⟨tar, rfl, hCar, hG2⟩
  have hs2 := hG2.size
  replace hAl := hAl.grow hG2
  replace hAar := hAar.grow hG2
  replace hCl := hCl.grow hG2
  replace hT := hT.trans hG2
  clear hG2
  go_wp2_with fail
  refine (specCriticalOf_v (hCl.rd (S := fun _ => True) fun _ _ => trivial) hBl (hCar.rd (S := fun _ => True) fun _ _ => trivial) hBar).mono ?_
  rintro e w3 ⟨a0, rfl, hVa0, hG3⟩
  have hs3 := hG3.size
  replace hAl := hAl.grow hG3
  replace hAar := hAar.grow hG3
  replace hT := hT.trans hG3
  clear hG3
  clear hCl
  clear hCar
  have hW0 : VII w3 (fun b => b < w3.heap.size) a0 (critB l ar) := hVa0.weak fun _ hb _ => hb
  clear hVa0
  go_wp2_with fail
  refine (to_II hAl hBl).mono ?_
  rintro e w4 ⟨xl, rfl, hXl, hG4⟩
  have hs4 := hG4.size
  replace hAl := hAl.grow hG4
  replace hAar := hAar.grow hG4
  replace hW0 := hW0.grow hG4
  replace hT := hT.trans hG4
  clear hG4
  go_wp2_with fail
  refine (to_AA hAar hBar).mono ?_
  rintro e w5 ⟨xar, rfl, hXar, hG5⟩
  have hs5 := hG5.size
  replace hAl := hAl.grow hG5
  replace hAar := hAar.grow hG5
  replace hW0 := hW0.grow hG5
  replace hXl := hXl.grow hG5
  replace hT := hT.trans hG5
  clear hG5
  go_wp2_with fail
  refine (implCriticalOf_v (hXl.rd (S := fun _ => True) fun _ _ => trivial) hBl (hXar.rd (S := fun _ => True) fun _ _ => trivial) hBar).mono ?_
  rintro e w6 ⟨g0, rfl, hVg0, hG6⟩
  have hs6 := hG6.size
  replace hAl := hAl.grow hG6
  replace hAar := hAar.grow hG6
  replace hW0 := hW0.grow hG6
  replace hXl := hXl.grow hG6
  replace hXar := hXar.grow hG6
  replace hT := hT.trans hG6
  clear hG6
  go_wp2_with fail
  refine (eq_II (hVg0.rd (S := fun _ => True) fun _ _ => trivial) hW0 hB_0).mono ?_
  rintro e w7 ⟨rfl, hG7⟩
  have hs7 := hG7.size
  replace hAl := hAl.grow hG7
  replace hAar := hAar.grow hG7
  replace hW0 := hW0.grow hG7
  replace hXl := hXl.grow hG7
  replace hXar := hXar.grow hG7
  replace hVg0 := hVg0.grow hG7
  replace hT := hT.trans hG7
  clear hG7
  go_wp2_with fail
  refine (to_II hAl hBl).mono ?_
  rintro e w8 ⟨tl, rfl, hCl, hG8⟩
  have hs8 := hG8.size
  replace hAl := hAl.grow hG8
  replace hAar := hAar.grow hG8
  replace hW0 := hW0.grow hG8
  replace hXl := hXl.grow hG8
  replace hXar := hXar.grow hG8
  replace hVg0 := hVg0.grow hG8
  replace hT := hT.trans hG8
  clear hG8
  go_wp2_with fail
  refine (eq_II (hXl.rd (S := fun _ => True) fun _ _ => trivial) (hCl.rd (S := fun _ => True) fun _ _ => trivial) (by omega)).mono ?_
  rintro e w9 ⟨rfl, hG9⟩
  have hs9 := hG9.size
  replace hAl := hAl.grow hG9
  replace hAar := hAar.grow hG9
  replace hW0 := hW0.grow hG9
  replace hXl := hXl.grow hG9
  replace hXar := hXar.grow hG9
  replace hVg0 := hVg0.grow hG9
  replace hT := hT.trans hG9
  clear hG9
  clear hCl
  go_wp2_with fail
  refine (to_AA hAar hBar).mono ?_
  rintro e w10 ⟨tar, rfl, hCar, hG10⟩
  have hs10 := hG10.size
  replace hAl := hAl.grow hG10
  replace hAar := hAar.grow hG10
  replace hW0 := hW0.grow hG10
  replace hXl := hXl.grow hG10
  replace hXar := hXar.grow hG10
  replace hVg0 := hVg0.grow hG10
  replace hT := hT.trans hG10
  clear hG10
  go_wp2_with fail
  refine (eq_AA (hXar.rd (S := fun _ => True) fun _ _ => trivial) (hCar.rd (S := fun _ => True) fun _ _ => trivial) (by omega)).mono ?_
  rintro e w11 ⟨rfl, hG11⟩
  have hs11 := hG11.size
  replace hAl := hAl.grow hG11
  replace hAar := hAar.grow hG11
  replace hW0 := hW0.grow hG11
  replace hXl := hXl.grow hG11
  replace hXar := hXar.grow hG11
  replace hVg0 := hVg0.grow hG11
  replace hT := hT.trans hG11
  clear hG11
  clear hCar
  go_wp2_with fail
  have hq_l : cntII l ≤ bdII l := by unfold cntII bdII; omega
  have hq_ar : cntAA ar ≤ bdAA ar := by unfold cntAA bdAA; omega
  refine (mark_II (1) hXl (by omega)).mono ?_
  rintro e w12 ⟨rfl, hXlm, hK12⟩
  have hs12 := hK12.size
  replace hAl := hAl.keep hK12 (fun b _ hb => by simp only [New] at hb ⊢; omega)
  replace hAar := hAar.keep hK12 (fun b _ hb => by simp only [New] at hb ⊢; omega)
  replace hW0 := hW0.keep hK12 (fun b _ hb => by simp only [New] at hb ⊢; omega)
  replace hXar := hXar.keep hK12 (fun b _ hb => by simp only [New] at hb ⊢; omega)
  replace hVg0 := hVg0.keep hK12 (fun b _ hb => by simp only [New] at hb ⊢; omega)
  replace hT : Grow w w12 := hT.keep hK12 (fun b hb => by simp only [New]; omega)
  clear hK12
  go_wp2_with fail
  refine (mark_AA (1 + cntII l) hXar (by omega)).mono ?_
  rintro e w13 ⟨rfl, hXarm, hK13⟩
  have hs13 := hK13.size
  replace hAl := hAl.keep hK13 (fun b _ hb => by simp only [New] at hb ⊢; omega)
  replace hAar := hAar.keep hK13 (fun b _ hb => by simp only [New] at hb ⊢; omega)
  replace hW0 := hW0.keep hK13 (fun b _ hb => by simp only [New] at hb ⊢; omega)
  replace hVg0 := hVg0.keep hK13 (fun b _ hb => by simp only [New] at hb ⊢; omega)
  replace hXlm := hXlm.keep hK13 (fun b _ hb => by simp only [New] at hb ⊢; omega)
  replace hT : Grow w w13 := hT.keep hK13 (fun b hb => by simp only [New]; omega)
  clear hK13
  go_wp2_with fail
  refine (eq_II (hVg0.rd (S := fun _ => True) fun _ _ => trivial) hW0 hB_0).mono ?_
  rintro e w14 ⟨rfl, hG14⟩
  have hs14 := hG14.size
  replace hAl := hAl.grow hG14
  replace hAar := hAar.grow hG14
  replace hW0 := hW0.grow hG14
  replace hVg0 := hVg0.grow hG14
  replace hXlm := hXlm.grow hG14
  replace hXarm := hXarm.grow hG14
  replace hT := hT.trans hG14
  clear hG14
  go_wp2_with fail
  refine (mark_II (1) hVg0 (by omega)).mono ?_
  rintro e w15 ⟨rfl, hVg0m, hK15⟩
  have hs15 := hK15.size
  replace hAl := hAl.keep hK15 (fun b _ hb => by simp only [New] at hb ⊢; omega)
  replace hAar := hAar.keep hK15 (fun b _ hb => by simp only [New] at hb ⊢; omega)
  replace hW0 := hW0.keep hK15 (fun b _ hb => by simp only [New] at hb ⊢; omega)
  replace hXlm := hXlm.keep hK15 (fun b _ hb => by simp only [New] at hb ⊢; omega)
  replace hXarm := hXarm.keep hK15 (fun b _ hb => by simp only [New] at hb ⊢; omega)
  replace hT : Grow w w15 := hT.keep hK15 (fun b hb => by simp only [New]; omega)
  clear hK15
  go_wp2_with fail
  refine (held_II (1) (hVg0m.rd (S := fun _ => True) fun _ _ => trivial) (by omega)).mono ?_
  rintro e w16 ⟨rfl, hG16⟩
  have hs16 := hG16.size
  replace hAl := hAl.grow hG16
  replace hAar := hAar.grow hG16
  replace hW0 := hW0.grow hG16
  replace hXlm := hXlm.grow hG16
  replace hXarm := hXarm.grow hG16
  replace hVg0m := hVg0m.grow hG16
  replace hT := hT.trans hG16
  clear hG16
  go_wp2_with fail
  refine (to_II hAl hBl).mono ?_
  rintro e w17 ⟨tl, rfl, hCl, hG17⟩
  have hs17 := hG17.size
  replace hAl := hAl.grow hG17
  replace hAar := hAar.grow hG17
  replace hW0 := hW0.grow hG17
  replace hXlm := hXlm.grow hG17
  replace hXarm := hXarm.grow hG17
  replace hVg0m := hVg0m.grow hG17
  replace hT := hT.trans hG17
  clear hG17
  go_wp2_with fail
  refine (to_AA hAar hBar).mono ?_
  rintro e w18 ⟨tar, rfl, hCar, hG18⟩
  have hs18 := hG18.size
  replace hAl := hAl.grow hG18
  replace hAar := hAar.grow hG18
  replace hW0 := hW0.grow hG18
  replace hXlm := hXlm.grow hG18
  replace hXarm := hXarm.grow hG18
  replace hVg0m := hVg0m.grow hG18
  replace hCl := hCl.grow hG18
  replace hT := hT.trans hG18
  clear hG18
  go_wp2_with fail
  refine (implCriticalOf_v (hCl.rd (S := fun _ => True) fun _ _ => trivial) hBl (hCar.rd (S := fun _ => True) fun _ _ => trivial) hBar).mono ?_
  rintro e w19 ⟨h0, rfl, hVh0, hG19⟩
  have hs19 := hG19.size
  replace hAl := hAl.grow hG19
  replace hAar := hAar.grow hG19
  replace hW0 := hW0.grow hG19
  replace hXlm := hXlm.grow hG19
  replace hXarm := hXarm.grow hG19
  replace hVg0m := hVg0m.grow hG19
  replace hT := hT.trans hG19
  clear hG19
  clear hCl
  clear hCar
  go_wp2_with fail
  refine (eq_II (hVh0.rd (S := fun _ => True) fun _ _ => trivial) hW0 hB_0).mono ?_
  rintro e w20 ⟨rfl, hG20⟩
  have hs20 := hG20.size
  replace hAl := hAl.grow hG20
  replace hAar := hAar.grow hG20
  replace hW0 := hW0.grow hG20
  replace hXlm := hXlm.grow hG20
  replace hXarm := hXarm.grow hG20
  replace hVg0m := hVg0m.grow hG20
  replace hVh0 := hVh0.grow hG20
  replace hT := hT.trans hG20
  clear hG20
  go_wp2_with fail
  refine (held_II (1) (hVg0m.rd (S := fun _ => True) fun _ _ => trivial) (by omega)).mono ?_
  rintro e w21 ⟨rfl, hG21⟩
  have hs21 := hG21.size
  replace hAl := hAl.grow hG21
  replace hAar := hAar.grow hG21
  replace hW0 := hW0.grow hG21
  replace hXlm := hXlm.grow hG21
  replace hXarm := hXarm.grow hG21
  replace hVg0m := hVg0m.grow hG21
  replace hVh0 := hVh0.grow hG21
  replace hT := hT.trans hG21
  clear hG21
  go_wp2_with fail
  go_ret
  exact ⟨rfl, hT⟩
set_option maxRecDepth 100000 in
theorem lifted (os : Os) (started : os.Started) (H : Type) (enc : TypeId × Value → H) :
    ReturnsInHanded {} Try.checked os 11 .any (Rows.fnExactCriticalOfSpec.pre6 enc Try.prog Try.f11 Rows.fnExactCriticalOfRow.domain false) (Rows.fnExactCriticalOfSpec.post enc Try.prog Try.f11 false true false false) := by
  refine law_close (C := Try.checked) (tb := 4) P_own started (by kernel_rfl) Try.func11
    (ChangeSpec.witness6 (enc := enc) (C := Try.checked) false ⟨#[], #[.slice none 0 0, .slice none 0 0], []⟩ 8 (by kernel_rfl) (by kernel_rfl) (by kernel_rfl) (by kernel_rfl))
    P_laid ?_ rfl Try.underlying4 rfl ?_ ?_
  · exact of_decide_eq_true (by kernel_rfl)
  · intro ds hds
    match ds, hds with
    | [d0, d1], _ => rfl
  · intro W args ds ps hval0 hA0
    have hval : ∀ (j : Nat) t v, Try.f11.params[j]? = some t → args[j]? = some v → Value.okWide Try.prog W .any 0 t v := hval0
    have hA : DataW.TrodAll enc Try.prog W 0 (fun _ => true) true Try.f11.params.toList args.toList ds ps := hA0
    rw [Try.params11] at hA hval
    obtain ⟨v0, vs0, d0, ds0, p0, q0, hargs, rfl, rfl, h0, r0⟩ := trodAll_cons hA
    obtain ⟨v1, vs1, d1, ds1, p1, q1, rfl, rfl, rfl, h1, r1⟩ := trodAll_cons r0
    obtain ⟨rfl, rfl, rfl⟩ := trodAll_nil r1
    obtain rfl : args = #[v0, v1] := by cases args; simp_all
    obtain ⟨x0a, x0n, x0c, x0, rfl, hx0⟩ := openII Try.underlying22 Try.underlying28 Try.underlying3 cells_ints cells_int (hval 0 22 v0 rfl rfl) h0
    obtain ⟨x1a, x1n, x1c, x1, rfl, hx1⟩ := openAAx (hval 1 44 v1 rfl rfl) h1
    exact walk _ x0 _ x1 W ⟨_, _, _, rfl, hx0⟩ ⟨_, _, _, rfl, hx1⟩

theorem proved : Rows.FnExactCriticalOfSaid :=
  OpenClaim.holds_of_wide 11 Try.f11 rfl rfl rfl rfl rfl rfl rfl ⟨rfl, rfl, rfl, rfl, rfl⟩ rfl rfl rfl rfl rfl (by kernel_rfl) Try.func11 (by kernel_rfl)
    (of_decide_eq_true (by kernel_rfl)) (by unfold Func.isWrapper; first | (rw [if_pos (by decide +kernel)]; kernel_rfl) | (rw [if_neg (by decide +kernel)]; exact ⟨rfl, rfl⟩))
    (fun os started H enc _ => lifted os started H enc)
end Go.Proofs.Ytkafhbedipfgpaa.lawCriticalOf
