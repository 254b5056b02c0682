/-
  The law FnExactCyclesOf returns true for all arguments: the program's CyclesOf and the reference's return the same; arguments stay; results share no memory. No condition.
-/
import Derived.Test.YthlncohllbmapaaCycles
namespace Go.Proofs.Ythlncohllbmapaa.lawCyclesOf
open Go.ChangeShapes Go.WideShapes Go.ChangeAt Go.RowKit

theorem basB_bd (m : Mat) : bdM (basB m) ≤ 1024 := by
  cases hB : isMatB m with
  | false =>
    rw [(basB_none (by unfold hermR; rw [hB]; rfl)).2]; simp [bdM]
  | true =>
    obtain ⟨R, C, hmr, hmc, hR, hC, hl, hnum⟩ := isMatB_shape hB
    have hRC : R * C ≤ 24 * 24 := Nat.mul_le_mul hR hC
    unfold basB
    cases hh : hermR m with
    | none => simp [bdM]
    | some s =>
      have hs : herm m.cells R C = some s := by
        unfold hermR at hh
        rw [hB, if_pos rfl, hmr, hmc] at hh
        simpa using hh
      have := (herm_spec hl hnum hs).1.la
      unfold bdM
      simp only [List.length_take]
      omega
theorem cycB_bd (l : List (List Int)) (k : Int) : bdM (cycB l k) ≤ 1024 := by
  unfold cycB
  split
  · unfold kerB
    split
    · exact basB_bd _
    · simp [bdM]
  · simp [bdM]
set_option maxHeartbeats 4000000 in
theorem walk (lv : Value) (l : List (List Int)) (k : Int) (w : World) (hl0 : VII w (fun _ => True) lv l) (_hk : I64 k) :
    Calls Try.prog 5 #[lv, .int .i64 k] w fun e w' => e = .returned (.bool true) ∧ Grow w w' := by
  have hs0 : w.heap.size ≤ w.heap.size := Nat.le_refl _
  have hAl : VII w (fun b => b < w.heap.size) lv l := hl0.weak fun _ hb _ => hb
  clear hl0
  by_cases hbl : szII' 1048576 l < 0
  · skip
    go_enter Try.func5, Try.ntmps5
    go_wp2_with fail
    refine (sz_II hAl (by omega) (by omega)).mono ?_; rintro e w' ⟨rfl, rfl⟩
    go_wp2_with fail
    all_goals (go_ret; exact ⟨rfl, Grow.refl _⟩)
  have hzl := sz_II_ok (l := l) (left := 1048576) (by omega)
  have hBl : bdII l ≤ 1048576 := by omega
  have hB_0 : bdM (cycB l k) ≤ 2097152 := by have := cycB_bd l k; omega
  have hB_1 : bdM (cycB l k) ≤ 1024 := cycB_bd l k
  go_enter Try.func5, Try.ntmps5
  go_wp2_with fail
  refine (sz_II hAl (by omega) (by omega)).mono ?_; rintro e w' ⟨rfl, rfl⟩
  go_wp2_with fail
  refine (to_II hAl hBl).mono ?_
  rintro e w1 ⟨tl, rfl, hCl, hG1⟩
  have hs1 := hG1.size
  replace hAl := hAl.grow hG1
  have hT := hG1
  clear hG1
  go_wp2_with fail
  refine (specCyclesOf_v (hCl.rd (S := fun _ => True) fun _ _ => trivial) hBl _hk).mono ?_
  rintro e w2 ⟨a0, rfl, hVa0, hG2⟩
  have hs2 := hG2.size
  replace hAl := hAl.grow hG2
  replace hT := hT.trans hG2
  clear hG2
  clear hCl
  obtain ⟨a0a, a0n, a0c, rfl, ha0x⟩ := hVa0
  replace hVa0 : OM w2 (New w1 w2) (.agg #[.int .i64 ((cycB l k)).rows, .int .i64 ((cycB l k)).cols, .slice a0a a0n a0c]) (cycB l k) := ⟨_, _, _, rfl, ha0x⟩
  clear ha0x
  have hW0 := (hVa0.rd (S := fun _ => True) fun _ _ => trivial).weak (T := fun b => b < w2.heap.size) fun _ hb _ => hb
  clear hVa0
  have hGa := (Grow.refl w2).alloc #[.int .i64 ((cycB l k)).rows, .int .i64 ((cycB l k)).cols, .slice a0a a0n a0c] 27
  have hBka0 := Blk.newAt w2 #[.int .i64 ((cycB l k)).rows, .int .i64 ((cycB l k)).cols, .slice a0a a0n a0c] 27 rfl
  replace hAl := hAl.grow hGa
  replace hW0 := hW0.grow hGa
  replace hT := hT.trans hGa
  have hsa2 := hGa.size
  have hsb2 := hBka0.lt
  clear hGa
  obtain ⟨⟨chBka00, chBka01, chBka02⟩, -⟩ := hBka0.three
  go_wp2_with fail
  clear chBka00
  clear chBka01
  clear chBka02
  refine (to_II hAl hBl).mono ?_
  rintro e w3 ⟨xl, rfl, hXl, hG3⟩
  have hs3 := hG3.size
  replace hAl := hAl.grow hG3
  replace hW0 := hW0.grow hG3
  replace hBka0 := hBka0.grow hG3
  replace hT := hT.trans hG3
  clear hG3
  obtain ⟨⟨chBka00, chBka01, chBka02⟩, -⟩ := hBka0.three
  go_wp2_with fail
  clear chBka00
  clear chBka01
  clear chBka02
  refine (implCyclesOf_v (hXl.rd (S := fun _ => True) fun _ _ => trivial) hBl _hk).mono ?_
  rintro e w4 ⟨g0, rfl, hVg0, hG4⟩
  have hs4 := hG4.size
  replace hAl := hAl.grow hG4
  replace hW0 := hW0.grow hG4
  replace hXl := hXl.grow hG4
  replace hBka0 := hBka0.grow hG4
  replace hT := hT.trans hG4
  clear hG4
  obtain ⟨g0a, g0n, g0c, rfl, hg0x⟩ := hVg0
  replace hVg0 : OM w4 (_) (.agg #[.int .i64 ((cycB l k)).rows, .int .i64 ((cycB l k)).cols, .slice g0a g0n g0c]) (cycB l k) := ⟨_, _, _, rfl, hg0x⟩
  clear hg0x
  have hGa := (Grow.refl w4).alloc #[.int .i64 ((cycB l k)).rows, .int .i64 ((cycB l k)).cols, .slice g0a g0n g0c] 27
  have hBkg0 := Blk.newAt w4 #[.int .i64 ((cycB l k)).rows, .int .i64 ((cycB l k)).cols, .slice g0a g0n g0c] 27 rfl
  replace hAl := hAl.grow hGa
  replace hW0 := hW0.grow hGa
  replace hXl := hXl.grow hGa
  replace hVg0 := hVg0.grow hGa
  replace hBka0 := hBka0.grow hGa
  replace hT := hT.trans hGa
  have hsa4 := hGa.size
  have hsb4 := hBkg0.lt
  clear hGa
  obtain ⟨⟨chBka00, chBka01, chBka02⟩, -⟩ := hBka0.three
  obtain ⟨⟨chBkg00, chBkg01, chBkg02⟩, -⟩ := hBkg0.three
  go_wp2_with fail
  clear chBka00
  clear chBka01
  clear chBka02
  clear chBkg00
  clear chBkg01
  clear chBkg02
  refine (eq_M (hVg0.rd (S := fun _ => True) fun _ _ => trivial) hW0 hB_0).mono ?_
  rintro e w5 ⟨rfl, hG5⟩
  have hs5 := hG5.size
  replace hAl := hAl.grow hG5
  replace hW0 := hW0.grow hG5
  replace hXl := hXl.grow hG5
  replace hVg0 := hVg0.grow hG5
  replace hBka0 := hBka0.grow hG5
  replace hBkg0 := hBkg0.grow hG5
  replace hT := hT.trans hG5
  clear hG5
  obtain ⟨⟨chBka00, chBka01, chBka02⟩, -⟩ := hBka0.three
  obtain ⟨⟨chBkg00, chBkg01, chBkg02⟩, -⟩ := hBkg0.three
  go_wp2_with fail
  clear chBka00
  clear chBka01
  clear chBka02
  clear chBkg00
  clear chBkg01
  clear chBkg02
  refine (to_II hAl hBl).mono ?_
  rintro e w6 ⟨tl, rfl, hCl, hG6⟩
  have hs6 := hG6.size
  replace hAl := hAl.grow hG6
  replace hW0 := hW0.grow hG6
  replace hXl := hXl.grow hG6
  replace hVg0 := hVg0.grow hG6
  replace hBka0 := hBka0.grow hG6
  replace hBkg0 := hBkg0.grow hG6
  replace hT := hT.trans hG6
  clear hG6
  obtain ⟨⟨chBka00, chBka01, chBka02⟩, -⟩ := hBka0.three
  obtain ⟨⟨chBkg00, chBkg01, chBkg02⟩, -⟩ := hBkg0.three
  go_wp2_with fail
  clear chBka00
  clear chBka01
  clear chBka02
  clear chBkg00
  clear chBkg01
  clear chBkg02
  refine (eq_II (hXl.rd (S := fun _ => True) fun _ _ => trivial) (hCl.rd (S := fun _ => True) fun _ _ => trivial) (by omega)).mono ?_
  rintro e w7 ⟨rfl, hG7⟩
  have hs7 := hG7.size
  replace hAl := hAl.grow hG7
  replace hW0 := hW0.grow hG7
  replace hXl := hXl.grow hG7
  replace hVg0 := hVg0.grow hG7
  replace hBka0 := hBka0.grow hG7
  replace hBkg0 := hBkg0.grow hG7
  replace hT := hT.trans hG7
  clear hG7
  clear hCl
  obtain ⟨⟨chBka00, chBka01, chBka02⟩, -⟩ := hBka0.three
  obtain ⟨⟨chBkg00, chBkg01, chBkg02⟩, -⟩ := hBkg0.three
  go_wp2_with fail
  clear chBka00
  clear chBka01
  clear chBka02
  clear chBkg00
  clear chBkg01
  clear chBkg02
  refine (mark_II (1) hXl (by omega)).mono ?_
  rintro e w8 ⟨rfl, hXlm, hK8⟩
  have hs8 := hK8.size
  replace hAl := hAl.keep hK8 (fun b _ hb => by simp only [New] at hb ⊢; omega)
  replace hW0 := hW0.keep hK8 (fun b _ hb => by simp only [New] at hb ⊢; omega)
  replace hVg0 := hVg0.keep hK8 (fun b _ hb => by simp only [New] at hb ⊢; omega)
  replace hBka0 := hBka0.keep hK8 (by simp only [New]; omega)
  replace hBkg0 := hBkg0.keep hK8 (by simp only [New]; omega)
  replace hT : Grow w w8 := hT.keep hK8 (fun b hb => by simp only [New]; omega)
  clear hK8
  obtain ⟨⟨chBka00, chBka01, chBka02⟩, -⟩ := hBka0.three
  obtain ⟨⟨chBkg00, chBkg01, chBkg02⟩, -⟩ := hBkg0.three
  go_wp2_with fail
  clear chBka00
  clear chBka01
  clear chBka02
  clear chBkg00
  clear chBkg01
  clear chBkg02
  refine (eq_M (hVg0.rd (S := fun _ => True) fun _ _ => trivial) hW0 hB_0).mono ?_
  rintro e w9 ⟨rfl, hG9⟩
  have hs9 := hG9.size
  replace hAl := hAl.grow hG9
  replace hW0 := hW0.grow hG9
  replace hVg0 := hVg0.grow hG9
  replace hXlm := hXlm.grow hG9
  replace hBka0 := hBka0.grow hG9
  replace hBkg0 := hBkg0.grow hG9
  replace hT := hT.trans hG9
  clear hG9
  obtain ⟨⟨chBka00, chBka01, chBka02⟩, -⟩ := hBka0.three
  obtain ⟨⟨chBkg00, chBkg01, chBkg02⟩, -⟩ := hBkg0.three
  go_wp2_with fail
  clear chBka00
  clear chBka01
  clear chBka02
  clear chBkg00
  clear chBkg01
  clear chBkg02
  refine (mark_M (1) hVg0 (by omega)).mono ?_
  rintro e w10 ⟨rfl, hVg0m, hK10⟩
  have hs10 := hK10.size
  replace hAl := hAl.keep hK10 (fun b _ hb => by simp only [New] at hb ⊢; omega)
  replace hW0 := hW0.keep hK10 (fun b _ hb => by simp only [New] at hb ⊢; omega)
  replace hXlm := hXlm.keep hK10 (fun b _ hb => by simp only [New] at hb ⊢; omega)
  replace hBka0 := hBka0.keep hK10 (by simp only [New]; omega)
  replace hBkg0 := hBkg0.keep hK10 (by simp only [New]; omega)
  replace hT : Grow w w10 := hT.keep hK10 (fun b hb => by simp only [New]; omega)
  clear hK10
  obtain ⟨⟨chBka00, chBka01, chBka02⟩, -⟩ := hBka0.three
  obtain ⟨⟨chBkg00, chBkg01, chBkg02⟩, -⟩ := hBkg0.three
  go_wp2_with fail
  clear chBka00
  clear chBka01
  clear chBka02
  clear chBkg00
  clear chBkg01
  clear chBkg02
  refine (held_M (1) (hVg0m.rd (S := fun _ => True) fun _ _ => trivial) (by omega)).mono ?_
  rintro e w11 ⟨rfl, hG11⟩
  have hs11 := hG11.size
  replace hAl := hAl.grow hG11
  replace hW0 := hW0.grow hG11
  replace hXlm := hXlm.grow hG11
  replace hVg0m := hVg0m.grow hG11
  replace hBka0 := hBka0.grow hG11
  replace hBkg0 := hBkg0.grow hG11
  replace hT := hT.trans hG11
  clear hG11
  obtain ⟨⟨chBka00, chBka01, chBka02⟩, -⟩ := hBka0.three
  obtain ⟨⟨chBkg00, chBkg01, chBkg02⟩, -⟩ := hBkg0.three
  go_wp2_with fail
  clear chBka00
  clear chBka01
  clear chBka02
  clear chBkg00
  clear chBkg01
  clear chBkg02
  refine (to_II hAl hBl).mono ?_
  rintro e w12 ⟨tl, rfl, hCl, hG12⟩
  have hs12 := hG12.size
  replace hAl := hAl.grow hG12
  replace hW0 := hW0.grow hG12
  replace hXlm := hXlm.grow hG12
  replace hVg0m := hVg0m.grow hG12
  replace hBka0 := hBka0.grow hG12
  replace hBkg0 := hBkg0.grow hG12
  replace hT := hT.trans hG12
  clear hG12
  obtain ⟨⟨chBka00, chBka01, chBka02⟩, -⟩ := hBka0.three
  obtain ⟨⟨chBkg00, chBkg01, chBkg02⟩, -⟩ := hBkg0.three
  go_wp2_with fail
  clear chBka00
  clear chBka01
  clear chBka02
  clear chBkg00
  clear chBkg01
  clear chBkg02
  refine (implCyclesOf_v (hCl.rd (S := fun _ => True) fun _ _ => trivial) hBl _hk).mono ?_
  rintro e w13 ⟨h0, rfl, hVh0, hG13⟩
  have hs13 := hG13.size
  replace hAl := hAl.grow hG13
  replace hW0 := hW0.grow hG13
  replace hXlm := hXlm.grow hG13
  replace hVg0m := hVg0m.grow hG13
  replace hBka0 := hBka0.grow hG13
  replace hBkg0 := hBkg0.grow hG13
  replace hT := hT.trans hG13
  clear hG13
  clear hCl
  obtain ⟨h0a, h0n, h0c, rfl, hh0x⟩ := hVh0
  replace hVh0 : OM w13 (_) (.agg #[.int .i64 ((cycB l k)).rows, .int .i64 ((cycB l k)).cols, .slice h0a h0n h0c]) (cycB l k) := ⟨_, _, _, rfl, hh0x⟩
  clear hh0x
  have hGa := (Grow.refl w13).alloc #[.int .i64 ((cycB l k)).rows, .int .i64 ((cycB l k)).cols, .slice h0a h0n h0c] 27
  have hBkh0 := Blk.newAt w13 #[.int .i64 ((cycB l k)).rows, .int .i64 ((cycB l k)).cols, .slice h0a h0n h0c] 27 rfl
  replace hAl := hAl.grow hGa
  replace hW0 := hW0.grow hGa
  replace hXlm := hXlm.grow hGa
  replace hVg0m := hVg0m.grow hGa
  replace hVh0 := hVh0.grow hGa
  replace hBka0 := hBka0.grow hGa
  replace hBkg0 := hBkg0.grow hGa
  replace hT := hT.trans hGa
  have hsa13 := hGa.size
  have hsb13 := hBkh0.lt
  clear hGa
  obtain ⟨⟨chBka00, chBka01, chBka02⟩, -⟩ := hBka0.three
  obtain ⟨⟨chBkg00, chBkg01, chBkg02⟩, -⟩ := hBkg0.three
  obtain ⟨⟨chBkh00, chBkh01, chBkh02⟩, -⟩ := hBkh0.three
  go_wp2_with fail
  clear chBka00
  clear chBka01
  clear chBka02
  clear chBkg00
  clear chBkg01
  clear chBkg02
  clear chBkh00
  clear chBkh01
  clear chBkh02
  refine (eq_M (hVh0.rd (S := fun _ => True) fun _ _ => trivial) hW0 hB_0).mono ?_
  rintro e w14 ⟨rfl, hG14⟩
  have hs14 := hG14.size
  replace hAl := hAl.grow hG14
  replace hW0 := hW0.grow hG14
  replace hXlm := hXlm.grow hG14
  replace hVg0m := hVg0m.grow hG14
  replace hVh0 := hVh0.grow hG14
  replace hBka0 := hBka0.grow hG14
  replace hBkg0 := hBkg0.grow hG14
  replace hBkh0 := hBkh0.grow hG14
  replace hT := hT.trans hG14
  clear hG14
  obtain ⟨⟨chBka00, chBka01, chBka02⟩, -⟩ := hBka0.three
  obtain ⟨⟨chBkg00, chBkg01, chBkg02⟩, -⟩ := hBkg0.three
  obtain ⟨⟨chBkh00, chBkh01, chBkh02⟩, -⟩ := hBkh0.three
  go_wp2_with fail
  clear chBka00
  clear chBka01
  clear chBka02
  clear chBkg00
  clear chBkg01
  clear chBkg02
  clear chBkh00
  clear chBkh01
  clear chBkh02
  refine (held_M (1) (hVg0m.rd (S := fun _ => True) fun _ _ => trivial) (by omega)).mono ?_
  rintro e w15 ⟨rfl, hG15⟩
  have hs15 := hG15.size
  replace hAl := hAl.grow hG15
  replace hW0 := hW0.grow hG15
  replace hXlm := hXlm.grow hG15
  replace hVg0m := hVg0m.grow hG15
  replace hVh0 := hVh0.grow hG15
  replace hBka0 := hBka0.grow hG15
  replace hBkg0 := hBkg0.grow hG15
  replace hBkh0 := hBkh0.grow hG15
  replace hT := hT.trans hG15
  clear hG15
  obtain ⟨⟨chBka00, chBka01, chBka02⟩, -⟩ := hBka0.three
  obtain ⟨⟨chBkg00, chBkg01, chBkg02⟩, -⟩ := hBkg0.three
  obtain ⟨⟨chBkh00, chBkh01, chBkh02⟩, -⟩ := hBkh0.three
  go_wp2_with fail
  clear chBka00
  clear chBka01
  clear chBka02
  clear chBkg00
  clear chBkg01
  clear chBkg02
  clear chBkh00
  clear chBkh01
  clear chBkh02
  go_ret
  exact ⟨rfl, hT⟩
set_option maxRecDepth 100000 in
theorem lifted (os : Os) (started : os.Started) (H : Type) (enc : TypeId × Value → H) :
    ReturnsInHanded {} Try.checked os 5 .any (Rows.fnExactCyclesOfSpec.pre6 enc Try.prog Try.f5 Rows.fnExactCyclesOfRow.domain false) (Rows.fnExactCyclesOfSpec.post enc Try.prog Try.f5 false true false false) := by
  refine law_close (C := Try.checked) (tb := 4) P_own started (by kernel_rfl) Try.func5
    (ChangeSpec.witness6 (enc := enc) (C := Try.checked) false ⟨#[], #[.slice none 0 0, .int .i64 0], []⟩ 8 (by kernel_rfl) (by kernel_rfl) (by kernel_rfl) (by kernel_rfl))
    P_laid ?_ rfl Try.underlying4 rfl ?_ ?_
  · exact of_decide_eq_true (by kernel_rfl)
  · intro ds hds
    match ds, hds with
    | [d0, d1], _ => rfl
  · intro W args ds ps hval0 hA0
    have hval : ∀ (j : Nat) t v, Try.f5.params[j]? = some t → args[j]? = some v → Value.okWide Try.prog W .any 0 t v := hval0
    have hA : DataW.TrodAll enc Try.prog W 0 (fun _ => true) true Try.f5.params.toList args.toList ds ps := hA0
    rw [Try.params5] at hA hval
    obtain ⟨v0, vs0, d0, ds0, p0, q0, hargs, rfl, rfl, h0, r0⟩ := trodAll_cons hA
    obtain ⟨v1, vs1, d1, ds1, p1, q1, rfl, rfl, rfl, h1, r1⟩ := trodAll_cons r0
    obtain ⟨rfl, rfl, rfl⟩ := trodAll_nil r1
    obtain rfl : args = #[v0, v1] := by cases args; simp_all
    obtain ⟨x0a, x0n, x0c, x0, rfl, hx0⟩ := openII Try.underlying31 Try.underlying22 Try.underlying3 cells_ints cells_int (hval 0 31 v0 rfl rfl) h0
    obtain ⟨x1, rfl, _, _, wx1⟩ := open_int Try.underlying3 (hval 1 3 v1 rfl rfl) h1
    exact walk _ x0 x1 W ⟨_, _, _, rfl, hx0⟩ (wf_I64 wx1)

theorem proved : Rows.FnExactCyclesOfSaid :=
  OpenClaim.holds_of_wide 5 Try.f5 rfl rfl rfl rfl rfl rfl rfl ⟨rfl, rfl, rfl, rfl, rfl⟩ rfl rfl rfl rfl rfl (by kernel_rfl) Try.func5 (by kernel_rfl)
    (of_decide_eq_true (by kernel_rfl)) (by unfold Func.isWrapper; first | (rw [if_pos (by decide +kernel)]; kernel_rfl) | (rw [if_neg (by decide +kernel)]; exact ⟨rfl, rfl⟩))
    (fun os started H enc _ => lifted os started H enc)
end Go.Proofs.Ythlncohllbmapaa.lawCyclesOf
