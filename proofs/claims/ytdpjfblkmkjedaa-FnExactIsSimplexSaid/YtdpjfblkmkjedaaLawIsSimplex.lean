/-
  The law FnExactIsSimplex returns true for every list: the program's IsSimplex and the reference's return the same.
-/
import Derived.Test.YtdpjfblkmkjedaaSimp
import Derived.Test.YtdpjfblkmkjedaaInts
namespace Go.Proofs.Ytdpjfblkmkjedaa.lawIsSimplex
open Go.ChangeShapes Go.WideShapes Go.ChangeAt Go.RowKit

set_option maxHeartbeats 1000000 in
theorem walk (a : Option Addr) (n cap : Nat) (xs : List Int) (w : World) (h : RdI w (fun _ => True) a n cap xs) :
    Calls Try.prog 4 #[.slice a n cap] w fun e w' => e = .returned (.bool true) ∧ Grow w w' := by
  by_cases hb : n ≤ 1048576
  · have hl := h.len
    have hr := h.rng
    go_enter Try.func4, Try.ntmps4
    go_wp2_with fail
    refine (toIntS_c _ _ _ xs _ h hb).mono ?_
    rintro e w1 ⟨rfl, hO1, hG1⟩
    go_wp2_with fail
    refine (specIsSimplex_c _ _ _ xs _ (hO1.rdI (S := fun _ => True) (fun _ _ => trivial) hr) hb).mono ?_
    rintro e w2 ⟨rfl, hG2⟩
    have hG := hG1.trans hG2; clear hG1 hG2 hO1
    go_wp2_with fail
    refine (toIntS_c _ _ _ xs _ (h.grow hG) hb).mono ?_
    rintro e w3 ⟨rfl, hO3, hG3⟩
    go_wp2_with fail
    refine (implIsSimplex_c _ _ _ xs _ (hO3.rdI (S := fun _ => True) (fun _ _ => trivial) hr) hb).mono ?_
    rintro e w4 ⟨rfl, hG4⟩
    have hO4 := hO3.grow hG4
    have hG' := (hG.trans hG3).trans hG4; clear hG hG3 hG4 hO3
    go_wp2_with fail
    refine (toIntS_c _ _ _ xs _ (h.grow hG') hb).mono ?_
    rintro e w5 ⟨rfl, hO5, hG5⟩
    go_wp2_with fail
    refine (eqIntS_c _ _ _ _ _ _ xs xs _ ((hO4.grow hG5).rdI (S := fun _ => True) (fun _ _ => trivial) hr) (hO5.rdI (S := fun _ => True) (fun _ _ => trivial) hr) (by omega)).mono ?_
    rintro e w6 ⟨rfl, hG6⟩
    rw [sameI_self]
    go_wp2
    go_ret
    exact ⟨rfl, (hG'.trans hG5).trans hG6⟩
  · skip
    go_enter Try.func4, Try.ntmps4
    go_wp2
    all_goals (go_ret; exact ⟨rfl, Grow.refl _⟩)

set_option maxRecDepth 100000 in
theorem lifted (os : Os) (started : os.Started) (H : Type) (enc : TypeId × Value → H) :
    ReturnsInHanded {} Try.checked os 4 .any (Rows.fnExactIsSimplexSpec.pre6 enc Try.prog Try.f4 Rows.fnExactIsSimplexRow.domain false) (Rows.fnExactIsSimplexSpec.post enc Try.prog Try.f4 false true false false) := by
  refine law_close (C := Try.checked) (tb := 4) P_own started (by kernel_rfl) Try.func4
    (ChangeSpec.witness6 (enc := enc) (C := Try.checked) false ⟨#[], #[.slice none 0 0], []⟩ 8 (by kernel_rfl) (by kernel_rfl) (by kernel_rfl) (by kernel_rfl))
    P_laid ?_ rfl Try.underlying4 rfl ?_ ?_
  · exact of_decide_eq_true (by kernel_rfl)
  · intro ds hds
    match ds, hds with
    | [d0], _ => rfl
  · intro W args ds ps hval0 hA0
    have hval : ∀ (j : Nat) t v, Try.f4.params[j]? = some t → args[j]? = some v → Value.okWide Try.prog W .any 0 t v := hval0
    have hA : DataW.TrodAll enc Try.prog W 0 (fun _ => true) true Try.f4.params.toList args.toList ds ps := hA0
    rw [Try.params4] at hA hval
    obtain ⟨v0, vs0, d0, ds0, p0, q0, hargs, rfl, rfl, h0, r0⟩ := trodAll_cons hA
    obtain ⟨rfl, rfl, rfl⟩ := trodAll_nil r0
    obtain rfl : args = #[v0] := by cases args; simp_all
    obtain ⟨x0a, x0n, x0c, x0, rfl, hx0⟩ := openI Try.underlying23 Try.underlying3 cells_int (hval 0 23 v0 rfl rfl) h0
    exact walk x0a x0n x0c x0 W hx0

theorem proved : Rows.FnExactIsSimplexSaid :=
  OpenClaim.holds_of_wide 4 Try.f4 rfl rfl rfl rfl rfl rfl rfl ⟨rfl, rfl, rfl, rfl, rfl⟩ rfl rfl rfl rfl rfl (by kernel_rfl) Try.func4 (by kernel_rfl)
    (of_decide_eq_true (by kernel_rfl)) (by unfold Func.isWrapper; first | (rw [if_pos (by decide +kernel)]; kernel_rfl) | (rw [if_neg (by decide +kernel)]; exact ⟨rfl, rfl⟩))
    (fun os started H enc _ => lifted os started H enc)
end Go.Proofs.Ytdpjfblkmkjedaa.lawIsSimplex
