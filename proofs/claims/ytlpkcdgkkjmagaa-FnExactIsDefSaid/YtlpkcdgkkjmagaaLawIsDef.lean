/-
  The law FnExactIsDef returns true for all arguments: the program's IsDef and the reference's return the same; arguments stay.
-/
import Derived.Test.YtlpkcdgkkjmagaaIsDefS
import Derived.Test.YtlpkcdgkkjmagaaDefO
import Derived.Test.YtlpkcdgkkjmagaaSegs
namespace Go.Proofs.Ytlpkcdgkkjmagaa
open Go.RowKit
theorem specIsDef_v {S : Nat → Prop} {v : Value} {d : Dfn} {w : World} (h : VD w S v d) (hb : bdD d ≤ 1048576) :
    Calls Try.prog 14 #[v] w fun e w' => e = .returned (.bool (isDefB d)) ∧ Grow w w' := specIsDef_c h (by unfold bdD at hb; omega)
theorem implIsDef_v {S : Nat → Prop} {v : Value} {d : Dfn} {w : World} (h : VD w S v d) (hb : bdD d ≤ 1048576) :
    Calls Try.prog 16 #[v] w fun e w' => e = .returned (.bool (isDefB d)) ∧ Grow w w' := implIsDef_c h (by unfold bdD at hb; omega)
end Go.Proofs.Ytlpkcdgkkjmagaa
namespace Go.Proofs.Ytlpkcdgkkjmagaa.lawIsDef
open Go.ChangeShapes Go.WideShapes Go.ChangeAt Go.RowKit

set_option maxHeartbeats 4000000 in
theorem walk (dv : Value) (d : Dfn) (w : World) (hd0 : VD w (fun _ => True) dv d) :
    Calls Try.prog 4 #[dv] w fun e w' => e = .returned (.bool true) ∧ Grow w w' := by
  have hs0 : w.heap.size ≤ w.heap.size := Nat.le_refl _
  have hAd : VD w (fun b => b < w.heap.size) dv d := hd0.weak fun _ hb _ => hb
  clear hd0
  have hq0d := hAd; obtain ⟨da, dn, dc, rfl, -⟩ := hq0d
  obtain ⟨wB, hwB⟩ : ∃ wB, wB = (w.alloc (.cells #[.string d.name, .int .i64 d.op, .string d.a, .string d.b, .int .i64 d.value.rows, .int .i64 d.value.cols, .slice da dn dc] 33)) := ⟨_, rfl⟩
  have hT : Grow w wB := by rw [hwB]; exact ((Grow.refl w).alloc _ _)
  have hBpd := Blk.newAt w #[.string d.name, .int .i64 d.op, .string d.a, .string d.b, .int .i64 d.value.rows, .int .i64 d.value.cols, .slice da dn dc] 33 (g := w.heap.size) (by simp)
  rw [← hwB] at hBpd
  have HwB := Lib.hid hwB; clear hwB
  have hsB := hT.size
  replace hAd := hAd.grow hT
  by_cases hbd : szD 1048576 d < 0
  · skip
    go_enter Try.func4, Try.ntmps4
    go_wp2_with fail
    rw [← HwB.out]
    refine (sz_D hAd (by omega) (by omega)).mono ?_; rintro e wz0 ⟨rfl, hGz0⟩; have hsz0 := hGz0.size; replace hT := hT.trans hGz0; replace hAd := hAd.grow hGz0; replace hBpd := hBpd.grow hGz0; clear hGz0
    obtain ⟨⟨pchBpd0_1, pchBpd1_1, pchBpd2_1, pchBpd3_1, pchBpd4_1, pchBpd5_1, pchBpd6_1⟩, -⟩ := hBpd.seven
    go_wp2_with fail
    clear pchBpd0_1 pchBpd1_1 pchBpd2_1 pchBpd3_1 pchBpd4_1 pchBpd5_1 pchBpd6_1
    all_goals (go_ret; exact ⟨rfl, hT⟩)
  have hzd := sz_D_ok (l := d) (left := 1048576) (by omega)
  have hBd : bdD d ≤ 1048576 := by omega
  go_enter Try.func4, Try.ntmps4
  go_wp2_with fail
  rw [← HwB.out]
  refine (sz_D hAd (by omega) (by omega)).mono ?_; rintro e wz0 ⟨rfl, hGz0⟩; have hsz0 := hGz0.size; replace hT := hT.trans hGz0; replace hAd := hAd.grow hGz0; replace hBpd := hBpd.grow hGz0; clear hGz0
  obtain ⟨⟨pchBpd0_2, pchBpd1_2, pchBpd2_2, pchBpd3_2, pchBpd4_2, pchBpd5_2, pchBpd6_2⟩, -⟩ := hBpd.seven
  go_wp2_with fail
  clear pchBpd0_2 pchBpd1_2 pchBpd2_2 pchBpd3_2 pchBpd4_2 pchBpd5_2 pchBpd6_2
  refine (to_D hAd hBd).mono ?_
  rintro e w1 ⟨td, rfl, hCd, hG1⟩
  have hs1 := hG1.size
  replace hAd := hAd.grow hG1
  replace hBpd := hBpd.grow hG1
  replace hT := hT.trans hG1
  clear hG1
  obtain ⟨⟨pchBpd0_3, pchBpd1_3, pchBpd2_3, pchBpd3_3, pchBpd4_3, pchBpd5_3, pchBpd6_3⟩, -⟩ := hBpd.seven
  go_wp2_with fail
  clear pchBpd0_3 pchBpd1_3 pchBpd2_3 pchBpd3_3 pchBpd4_3 pchBpd5_3 pchBpd6_3
  refine (specIsDef_v (hCd.rd (S := fun _ => True) fun _ _ => trivial) hBd).mono ?_
  rintro e w2 ⟨rfl, hG2⟩
  have hs2 := hG2.size
  replace hAd := hAd.grow hG2
  replace hBpd := hBpd.grow hG2
  replace hT := hT.trans hG2
  clear hG2
  clear hCd
  obtain ⟨⟨pchBpd0_4, pchBpd1_4, pchBpd2_4, pchBpd3_4, pchBpd4_4, pchBpd5_4, pchBpd6_4⟩, -⟩ := hBpd.seven
  go_wp2_with fail
  clear pchBpd0_4 pchBpd1_4 pchBpd2_4 pchBpd3_4 pchBpd4_4 pchBpd5_4 pchBpd6_4
  refine (to_D hAd hBd).mono ?_
  rintro e w3 ⟨xd, rfl, hXd, hG3⟩
  have hs3 := hG3.size
  replace hAd := hAd.grow hG3
  replace hBpd := hBpd.grow hG3
  replace hT := hT.trans hG3
  clear hG3
  obtain ⟨xda, xdn, xdc, rfl, hXdx⟩ := hXd
  replace hXd : OD w3 (New w2 w3) (.agg #[.string (d).name, .int .i64 (d).op, .string (d).a, .string (d).b, .int .i64 (d).value.rows, .int .i64 (d).value.cols, .slice xda xdn xdc]) d := ⟨_, _, _, rfl, hXdx⟩
  clear hXdx
  have hGa := (Grow.refl w3).alloc #[.string (d).name, .int .i64 (d).op, .string (d).a, .string (d).b, .int .i64 (d).value.rows, .int .i64 (d).value.cols, .slice xda xdn xdc] 38
  have hBkxd := Blk.newAt w3 #[.string (d).name, .int .i64 (d).op, .string (d).a, .string (d).b, .int .i64 (d).value.rows, .int .i64 (d).value.cols, .slice xda xdn xdc] 38 rfl
  replace hAd := hAd.grow hGa
  replace hXd := hXd.grow hGa
  replace hBpd := hBpd.grow hGa
  replace hT := hT.trans hGa
  have hsa3 := hGa.size
  have hsb3 := hBkxd.lt
  clear hGa
  obtain ⟨⟨chBkxd0, chBkxd1, chBkxd2, chBkxd3, chBkxd4, chBkxd5, chBkxd6⟩, -⟩ := hBkxd.seven
  obtain ⟨⟨pchBpd0_5, pchBpd1_5, pchBpd2_5, pchBpd3_5, pchBpd4_5, pchBpd5_5, pchBpd6_5⟩, -⟩ := hBpd.seven
  go_wp2_with fail
  clear chBkxd0
  clear chBkxd1
  clear chBkxd2
  clear chBkxd3
  clear chBkxd4
  clear chBkxd5
  clear chBkxd6
  clear pchBpd0_5 pchBpd1_5 pchBpd2_5 pchBpd3_5 pchBpd4_5 pchBpd5_5 pchBpd6_5
  refine (implIsDef_v (hXd.rd (S := fun _ => True) fun _ _ => trivial) hBd).mono ?_
  rintro e w4 ⟨rfl, hG4⟩
  have hs4 := hG4.size
  replace hAd := hAd.grow hG4
  replace hXd := hXd.grow hG4
  replace hBkxd := hBkxd.grow hG4
  replace hBpd := hBpd.grow hG4
  replace hT := hT.trans hG4
  clear hG4
  obtain ⟨⟨chBkxd0, chBkxd1, chBkxd2, chBkxd3, chBkxd4, chBkxd5, chBkxd6⟩, -⟩ := hBkxd.seven
  obtain ⟨⟨pchBpd0_6, pchBpd1_6, pchBpd2_6, pchBpd3_6, pchBpd4_6, pchBpd5_6, pchBpd6_6⟩, -⟩ := hBpd.seven
  go_wp2_with fail
  clear chBkxd0
  clear chBkxd1
  clear chBkxd2
  clear chBkxd3
  clear chBkxd4
  clear chBkxd5
  clear chBkxd6
  clear pchBpd0_6 pchBpd1_6 pchBpd2_6 pchBpd3_6 pchBpd4_6 pchBpd5_6 pchBpd6_6
  refine wp_region_segs (S := Grow w4) [([0, 1], some 2), ([], some 3), ([4], none)] P_mixed (by kernel_rfl) (fun _ _ _ _ _ h => h) (Grow.refl _).drew ?_
  show wpQuiet _ _ _ _ [_, _] _
  repeat (first | go_big_quiet_skip | (go_big_quiet_want; first | (apply quiet_load7 (d := d) (s := .slice xda xdn xdc) T_def; rfl; rfl; exact (fun w' hG => DAt.of_blk (hBkxd.grow hG)); go_big_quiet_on; simp only [Act.put, List.setIfInBounds_toArray, List.set_cons_succ, List.set_cons_zero]) | (apply quiet_load7 (d := d) (s := .slice da dn dc) T_ldef; rfl; rfl; exact (fun w' hG => DAt.of_blk (hBpd.grow hG)); go_big_quiet_on; simp only [Act.put, List.setIfInBounds_toArray, List.set_cons_succ, List.set_cons_zero]) | (go_big_quiet_op; first | go_big_quiet_on | (refine ⟨_, (fun _ _ => rfl), ?_⟩; go_big_quiet_on))))
  refine wpQuiet_nil ?_
  generalize hwd : w4.drew = w5
  have hQ : Grow w4 w5 := by rw [← hwd]; exact (Grow.refl _).drew
  clear hwd
  have hs5 := hQ.size
  replace hAd := hAd.grow hQ
  replace hXd := hXd.grow hQ
  replace hBkxd := hBkxd.grow hQ
  replace hBpd := hBpd.grow hQ
  replace hT := hT.trans hQ
  refine seg_go rfl (fun K hK => ?_)
  go_wp2_with fail
  refine (to_D hAd hBd).mono ?_
  rintro e w6 ⟨td, rfl, hCd, hG6⟩
  have hs6 := hG6.size
  replace hAd := hAd.grow hG6
  replace hXd := hXd.grow hG6
  replace hBkxd := hBkxd.grow hG6
  replace hBpd := hBpd.grow hG6
  replace hT := hT.trans hG6
  replace hQ := hQ.trans hG6
  clear hG6
  obtain ⟨tda, tdn, tdc, rfl, hCdx⟩ := hCd
  replace hCd : OD w6 (New w5 w6) (.agg #[.string (d).name, .int .i64 (d).op, .string (d).a, .string (d).b, .int .i64 (d).value.rows, .int .i64 (d).value.cols, .slice tda tdn tdc]) d := ⟨_, _, _, rfl, hCdx⟩
  clear hCdx
  go_wp2_with fail
  refine hK _ _ (hQ) ?_
  clear hK K
  show wpQuiet _ _ _ _ [] _
  try (conv => arg 6; simp only [Act.put, List.setIfInBounds_toArray, List.set_cons_succ, List.set_cons_zero])
  refine wpQuiet_nil ?_
  refine seg_go rfl (fun K hK => ?_)
  go_wp2_with fail
  refine (eq_D (hXd.rd (S := fun _ => True) fun _ _ => trivial) (hCd.rd (S := fun _ => True) fun _ _ => trivial) (by omega)).mono ?_
  rintro e w7 ⟨rfl, hG7⟩
  have hs7 := hG7.size
  replace hAd := hAd.grow hG7
  replace hXd := hXd.grow hG7
  replace hBkxd := hBkxd.grow hG7
  replace hBpd := hBpd.grow hG7
  replace hT := hT.trans hG7
  replace hQ := hQ.trans hG7
  clear hG7 hCd
  go_wp2_with fail
  refine hK _ _ (hQ) ?_
  clear hK K
  show wpQuiet _ _ _ _ [_] _
  try (conv => arg 6; simp only [Act.put, List.setIfInBounds_toArray, List.set_cons_succ, List.set_cons_zero])
  repeat (first | go_big_quiet_skip | (go_big_quiet_want; first | (apply quiet_load7 (d := d) (s := .slice xda xdn xdc) T_def; rfl; rfl; exact (fun w' hG => DAt.of_blk (hBkxd.grow hG)); go_big_quiet_on; simp only [Act.put, List.setIfInBounds_toArray, List.set_cons_succ, List.set_cons_zero]) | (apply quiet_load7 (d := d) (s := .slice da dn dc) T_ldef; rfl; rfl; exact (fun w' hG => DAt.of_blk (hBpd.grow hG)); go_big_quiet_on; simp only [Act.put, List.setIfInBounds_toArray, List.set_cons_succ, List.set_cons_zero]) | (go_big_quiet_op; first | go_big_quiet_on | (refine ⟨_, (fun _ _ => rfl), ?_⟩; go_big_quiet_on))))
  refine wpQuiet_nil ?_
  clear hQ
  refine wpSegs_nil ?_
  obtain ⟨⟨chBkxd0, chBkxd1, chBkxd2, chBkxd3, chBkxd4, chBkxd5, chBkxd6⟩, -⟩ := hBkxd.seven
  obtain ⟨⟨pchBpd0_7, pchBpd1_7, pchBpd2_7, pchBpd3_7, pchBpd4_7, pchBpd5_7, pchBpd6_7⟩, -⟩ := hBpd.seven
  go_wp2_with fail
  clear chBkxd0
  clear chBkxd1
  clear chBkxd2
  clear chBkxd3
  clear chBkxd4
  clear chBkxd5
  clear chBkxd6
  clear pchBpd0_7 pchBpd1_7 pchBpd2_7 pchBpd3_7 pchBpd4_7 pchBpd5_7 pchBpd6_7
  go_ret
  exact ⟨rfl, hT⟩
set_option maxRecDepth 100000 in
theorem lifted (os : Os) (started : os.Started) (H : Type) (enc : TypeId × Value → H) :
    ReturnsInHanded {} Try.checked os 4 .any (Rows.fnExactIsDefSpec.pre6 enc Try.prog Try.f4 Rows.fnExactIsDefRow.domain false) (Rows.fnExactIsDefSpec.post enc Try.prog Try.f4 false true false false) := by
  refine law_close (C := Try.checked) (tb := 4) P_own started (by kernel_rfl) Try.func4
    (ChangeSpec.witness6 (enc := enc) (C := Try.checked) false ⟨#[], #[.agg #[.string .empty, .int .i64 0, .string .empty, .string .empty, .int .i64 0, .int .i64 0, .slice none 0 0]], []⟩ 8 (by kernel_rfl) (by kernel_rfl) (by kernel_rfl) (by kernel_rfl))
    P_laid ?_ rfl Try.underlying4 rfl ?_ ?_
  · exact of_decide_eq_true (by kernel_rfl)
  · intro ds hds
    match ds, hds with
    | [d0], _ => rfl
  · intro W args ds ps hval0 hA0
    have hval : ∀ (j : Nat) t v, Try.f4.params[j]? = some t → args[j]? = some v → Value.okWide Try.prog W .any 0 t v := hval0
    have hA : DataW.TrodAll enc Try.prog W 0 (fun _ => true) true Try.f4.params.toList args.toList ds ps := hA0
    rw [Try.params4] at hA hval
    obtain ⟨v0, vs0, d0, ds0, p0, q0, hargs, rfl, rfl, h0, r0⟩ := trodAll_cons hA
    obtain ⟨rfl, rfl, rfl⟩ := trodAll_nil r0
    obtain rfl : args = #[v0] := by cases args; simp_all
    obtain ⟨x0, hx0⟩ := openDx (hval 0 33 v0 rfl rfl) h0
    exact walk _ x0 W hx0

theorem proved : Rows.FnExactIsDefSaid :=
  OpenClaim.holds_of_wide 4 Try.f4 rfl rfl rfl rfl rfl rfl rfl ⟨rfl, rfl, rfl, rfl, rfl⟩ rfl rfl rfl rfl rfl (by kernel_rfl) Try.func4 (by kernel_rfl)
    (of_decide_eq_true (by kernel_rfl)) (by unfold Func.isWrapper; first | (rw [if_pos (by decide +kernel)]; kernel_rfl) | (rw [if_neg (by decide +kernel)]; exact ⟨rfl, rfl⟩))
    (fun os started H enc _ => lifted os started H enc)
end Go.Proofs.Ytlpkcdgkkjmagaa.lawIsDef
