/-
  The law FnExactCohomologyOf returns true for all arguments: the program's CohomologyOf and the reference's return the same; arguments stay; results share no memory. No condition.
-/
import Derived.Test.YtodemejfbekjgaaGreatZTurn
import Derived.Test.YtodemejfbekjgaaGreatZBase
namespace Go.Proofs.YtodemejfbekjgaaGreat.lawCohomologyOf
open Go.ChangeShapes Go.WideShapes Go.ChangeAt Go.RowKit

noncomputable def rB (l : List (List Int)) (k : Int) : List Int := mqB (cohIs l k) (cohX l k) (cohY l k)
noncomputable def rN (l : List (List Int)) (k : Int) : Int := mqN (cohIs l k) (cohX l k) (cohY l k)
noncomputable def rOk (l : List (List Int)) (k : Int) : Bool := mqOk (cohIs l k) (cohX l k) (cohY l k)
theorem rB_bd (l : List (List Int)) (k : Int) : bdI (rB l k) ≤ 1024 := mqB_bd _ _ _
theorem spec_V {S : Nat → Prop} {v : Value} {l : List (List Int)} {k : Int} {w : World} (h : VII w S v l) (hb : bdII l ≤ 1048576) (hk : I64 k) :
    Calls Tryz.prog 24 #[v, .int .i64 k] w fun e w' => ∃ r, e = .returned (.tuple #[r, .int .i64 (rN l k), .bool (rOk l k)]) ∧ VI w' (New w w') r (rB l k) ∧ Grow w w' :=
  (specCohomologyOf_v h hb hk).mono fun _ _ ⟨r, h1, h2, h3⟩ => ⟨r, h1, h2.rd fun _ h => h, h3⟩
theorem impl_V {S : Nat → Prop} {v : Value} {l : List (List Int)} {k : Int} {w : World} (h : VII w S v l) (hb : bdII l ≤ 1048576) (hk : I64 k) :
    Calls Tryz.prog 25 #[v, .int .i64 k] w fun e w' => ∃ r, e = .returned (.tuple #[r, .int .i64 (rN l k), .bool (rOk l k)]) ∧ OI w' (New w w') r (rB l k) ∧ Grow w w' := implCohomologyOf_v h hb hk
set_option maxHeartbeats 16000000 in
set_option maxRecDepth 100000 in
theorem walk (lv : Value) (l : List (List Int)) (k : Int) (w : World) (hl0 : VII w (fun _ => True) lv l) (_hk : I64 k) :
    Calls Tryz.prog 6 #[lv, .int .i64 k] w fun e w' => e = .returned (.bool true) ∧ Grow w w' := by
  have hs0 : w.heap.size ≤ w.heap.size := Nat.le_refl _
  have hAl : VII w (fun b => b < w.heap.size) lv l := hl0.weak fun _ hb _ => hb
  clear hl0
  by_cases hbl : szII' 1048576 l < 0
  · skip
    go_enter Tryz.func6, Tryz.ntmps6
    go_wp2_with fail
    refine (sz_II hAl (by omega) (by omega)).mono ?_; rintro e w' ⟨rfl, rfl⟩
    go_wp2_with fail
    all_goals (go_ret; exact ⟨rfl, Grow.refl _⟩)
  have hzl := sz_II_ok (l := l) (left := 1048576) (by omega)
  have hBl : bdII l ≤ 1048576 := by omega
  have hB_0 : bdI (rB l k) ≤ 2097152 := by have := rB_bd l k; omega
  have hB_1 : bdI (rB l k) ≤ 1024 := rB_bd l k
  go_enter Tryz.func6, Tryz.ntmps6
  go_wp2_with fail
  refine (sz_II hAl (by omega) (by omega)).mono ?_; rintro e w' ⟨rfl, rfl⟩
  go_wp2_with fail
  refine (to_II hAl hBl).mono ?_
  rintro e w1 ⟨tl, rfl, hCl, hG1⟩
  have hs1 := hG1.size
  replace hAl := hAl.grow hG1
  have hT := hG1
  clear hG1
  go_wp2_with fail
  refine (spec_V (hCl.rd (S := fun _ => True) fun _ _ => trivial) hBl _hk).mono ?_
  rintro e w2 ⟨a0, rfl, hVa0, hG2⟩
  have hs2 := hG2.size
  replace hAl := hAl.grow hG2
  replace hT := hT.trans hG2
  clear hG2
  clear hCl
  have hW0 : VI w2 (fun b => b < w2.heap.size) a0 (rB l k) := hVa0.weak fun _ hb _ => hb
  clear hVa0
  go_wp2_with fail
  refine (to_II hAl hBl).mono ?_
  rintro e w3 ⟨xl, rfl, hXl, hG3⟩
  have hs3 := hG3.size
  replace hAl := hAl.grow hG3
  replace hW0 := hW0.grow hG3
  replace hT := hT.trans hG3
  clear hG3
  go_wp2_with fail
  refine (impl_V (hXl.rd (S := fun _ => True) fun _ _ => trivial) hBl _hk).mono ?_
  rintro e w4 ⟨g0, rfl, hVg0, hG4⟩
  have hs4 := hG4.size
  replace hAl := hAl.grow hG4
  replace hW0 := hW0.grow hG4
  replace hXl := hXl.grow hG4
  replace hT := hT.trans hG4
  clear hG4
  go_wp2_with fail
  refine (eq_I (hVg0.rd (S := fun _ => True) fun _ _ => trivial) hW0 hB_0).mono ?_
  rintro e w5 ⟨rfl, hG5⟩
  have hs5 := hG5.size
  replace hAl := hAl.grow hG5
  replace hW0 := hW0.grow hG5
  replace hXl := hXl.grow hG5
  replace hVg0 := hVg0.grow hG5
  replace hT := hT.trans hG5
  clear hG5
  go_wp2_with fail
  refine (to_II hAl hBl).mono ?_
  rintro e w6 ⟨tl, rfl, hCl, hG6⟩
  have hs6 := hG6.size
  replace hAl := hAl.grow hG6
  replace hW0 := hW0.grow hG6
  replace hXl := hXl.grow hG6
  replace hVg0 := hVg0.grow hG6
  replace hT := hT.trans hG6
  clear hG6
  go_wp2_with fail
  refine (eq_II (hXl.rd (S := fun _ => True) fun _ _ => trivial) (hCl.rd (S := fun _ => True) fun _ _ => trivial) (by omega)).mono ?_
  rintro e w7 ⟨rfl, hG7⟩
  have hs7 := hG7.size
  replace hAl := hAl.grow hG7
  replace hW0 := hW0.grow hG7
  replace hXl := hXl.grow hG7
  replace hVg0 := hVg0.grow hG7
  replace hT := hT.trans hG7
  clear hG7
  clear hCl
  go_wp2_with fail
  refine (mark_II (1) hXl (by omega)).mono ?_
  rintro e w8 ⟨rfl, hXlm, hK8⟩
  have hs8 := hK8.size
  replace hAl := hAl.keep hK8 (fun b _ hb => by (try simp only [New] at hb ⊢); omega)
  replace hW0 := hW0.keep hK8 (fun b _ hb => by (try simp only [New] at hb ⊢); omega)
  replace hVg0 := hVg0.keep hK8 (fun b _ hb => by (try simp only [New] at hb ⊢); omega)
  replace hT : Grow w w8 := hT.keep hK8 (fun b hb => by (try simp only [New]); omega)
  clear hK8
  go_wp2_with fail
  refine (eq_I (hVg0.rd (S := fun _ => True) fun _ _ => trivial) hW0 hB_0).mono ?_
  rintro e w9 ⟨rfl, hG9⟩
  have hs9 := hG9.size
  replace hAl := hAl.grow hG9
  replace hW0 := hW0.grow hG9
  replace hVg0 := hVg0.grow hG9
  replace hXlm := hXlm.grow hG9
  replace hT := hT.trans hG9
  clear hG9
  go_wp2_with fail
  refine (mark_I (1) hVg0 (by omega)).mono ?_
  rintro e w10 ⟨rfl, hVg0m, hK10⟩
  have hs10 := hK10.size
  replace hAl := hAl.keep hK10 (fun b _ hb => by (try simp only [New] at hb ⊢); omega)
  replace hW0 := hW0.keep hK10 (fun b _ hb => by (try simp only [New] at hb ⊢); omega)
  replace hXlm := hXlm.keep hK10 (fun b _ hb => by (try simp only [New] at hb ⊢); omega)
  replace hT : Grow w w10 := hT.keep hK10 (fun b hb => by (try simp only [New]); omega)
  clear hK10
  go_wp2_with fail
  refine (held_I (1) (hVg0m.rd (S := fun _ => True) fun _ _ => trivial) (by omega)).mono ?_
  rintro e w11 ⟨rfl, hG11⟩
  have hs11 := hG11.size
  replace hAl := hAl.grow hG11
  replace hW0 := hW0.grow hG11
  replace hXlm := hXlm.grow hG11
  replace hVg0m := hVg0m.grow hG11
  replace hT := hT.trans hG11
  clear hG11
  go_wp2_with fail
  refine (to_II hAl hBl).mono ?_
  rintro e w12 ⟨tl, rfl, hCl, hG12⟩
  have hs12 := hG12.size
  replace hAl := hAl.grow hG12
  replace hW0 := hW0.grow hG12
  replace hXlm := hXlm.grow hG12
  replace hVg0m := hVg0m.grow hG12
  replace hT := hT.trans hG12
  clear hG12
  go_wp2_with fail
  refine (impl_V (hCl.rd (S := fun _ => True) fun _ _ => trivial) hBl _hk).mono ?_
  rintro e w13 ⟨h0, rfl, hVh0, hG13⟩
  have hs13 := hG13.size
  replace hAl := hAl.grow hG13
  replace hW0 := hW0.grow hG13
  replace hXlm := hXlm.grow hG13
  replace hVg0m := hVg0m.grow hG13
  replace hT := hT.trans hG13
  clear hG13
  clear hCl
  go_wp2_with fail
  refine (eq_I (hVh0.rd (S := fun _ => True) fun _ _ => trivial) hW0 hB_0).mono ?_
  rintro e w14 ⟨rfl, hG14⟩
  have hs14 := hG14.size
  replace hAl := hAl.grow hG14
  replace hW0 := hW0.grow hG14
  replace hXlm := hXlm.grow hG14
  replace hVg0m := hVg0m.grow hG14
  replace hVh0 := hVh0.grow hG14
  replace hT := hT.trans hG14
  clear hG14
  go_wp2_with fail
  refine (held_I (1) (hVg0m.rd (S := fun _ => True) fun _ _ => trivial) (by omega)).mono ?_
  rintro e w15 ⟨rfl, hG15⟩
  have hs15 := hG15.size
  replace hAl := hAl.grow hG15
  replace hW0 := hW0.grow hG15
  replace hXlm := hXlm.grow hG15
  replace hVg0m := hVg0m.grow hG15
  replace hVh0 := hVh0.grow hG15
  replace hT := hT.trans hG15
  clear hG15
  go_wp2_with fail
  go_ret
  exact ⟨rfl, hT⟩
set_option maxRecDepth 100000 in
theorem lifted (os : Os) (started : os.Started) (H : Type) (enc : TypeId × Value → H) :
    ReturnsInHanded {} Tryz.checked os 6 .any (Rows.fnExactCohomologyOfSpec.pre6 enc Tryz.prog Tryz.f6 Rows.fnExactCohomologyOfRow.domain false) (Rows.fnExactCohomologyOfSpec.post enc Tryz.prog Tryz.f6 false true false false) := by
  refine law_close (C := Tryz.checked) (tb := 4) P_own started (by kernel_rfl) Tryz.func6
    (ChangeSpec.witness6 (enc := enc) (C := Tryz.checked) false ⟨#[], #[.slice none 0 0, .int .i64 0], []⟩ 8 (by kernel_rfl) (by kernel_rfl) (by kernel_rfl) (by kernel_rfl))
    P_laid ?_ rfl Tryz.underlying4 rfl ?_ ?_
  · exact of_decide_eq_true (by kernel_rfl)
  · intro ds hds
    match ds, hds with
    | [d0, d1], _ => rfl
  · intro W args ds ps hval0 hA0
    have hval : ∀ (j : Nat) t v, Tryz.f6.params[j]? = some t → args[j]? = some v → Value.okWide Tryz.prog W .any 0 t v := hval0
    have hA : DataW.TrodAll enc Tryz.prog W 0 (fun _ => true) true Tryz.f6.params.toList args.toList ds ps := hA0
    rw [Tryz.params6] at hA hval
    obtain ⟨v0, vs0, d0, ds0, p0, q0, hargs, rfl, rfl, h0, r0⟩ := trodAll_cons hA
    obtain ⟨v1, vs1, d1, ds1, p1, q1, rfl, rfl, rfl, h1, r1⟩ := trodAll_cons r0
    obtain ⟨rfl, rfl, rfl⟩ := trodAll_nil r1
    obtain rfl : args = #[v0, v1] := by cases args; simp_all
    obtain ⟨x0a, x0n, x0c, x0, rfl, hx0⟩ := openII Tryz.underlying35 Tryz.underlying22 Tryz.underlying3 cells_ints cells_int (hval 0 35 v0 rfl rfl) h0
    obtain ⟨x1, rfl, _, _, wx1⟩ := open_int Tryz.underlying3 (hval 1 3 v1 rfl rfl) h1
    exact walk _ x0 x1 W ⟨_, _, _, rfl, hx0⟩ (wf_I64 wx1)

theorem proved : Rows.FnExactCohomologyOfSaid :=
  OpenClaim.holds_of_wide 6 Tryz.f6 rfl rfl rfl rfl rfl rfl rfl ⟨rfl, rfl, rfl, rfl, rfl⟩ rfl rfl rfl rfl rfl (by kernel_rfl) Tryz.func6 (by kernel_rfl)
    (of_decide_eq_true (by kernel_rfl)) (by unfold Func.isWrapper; first | (rw [if_pos (by decide +kernel)]; kernel_rfl) | (rw [if_neg (by decide +kernel)]; exact ⟨rfl, rfl⟩))
    (fun os started H enc _ => lifted os started H enc)
end Go.Proofs.YtodemejfbekjgaaGreat.lawCohomologyOf
