/-
  The law FnExactOrderIn returns true for all arguments: the program's OrderIn and the reference's return the same; arguments stay. No condition.
-/
import Derived.Test.YtodemejfbekjgaaZOrd
import Derived.Test.YtodemejfbekjgaaZBase
import Derived.Test.YtodemejfbekjgaaZInts
namespace Go.Proofs.Ytodemejfbekjgaa.lawOrderIn
open Go.ChangeShapes Go.WideShapes Go.ChangeAt Go.RowKit

set_option maxHeartbeats 16000000 in
set_option maxRecDepth 100000 in
theorem walk (mrv : Value) (mr : Mat) (mvv : Value) (mv : List Int) (w : World) (hmr0 : VM w (fun _ => True) mrv mr) (hmv0 : VI w (fun _ => True) mvv mv) :
    Calls Try.prog 5 #[mrv, mvv] w fun e w' => e = .returned (.bool true) ∧ Grow w w' := by
  have hs0 : w.heap.size ≤ w.heap.size := Nat.le_refl _
  have hAmr : VM w (fun b => b < w.heap.size) mrv mr := hmr0.weak fun _ hb _ => hb
  have hAmv : VI w (fun b => b < w.heap.size) mvv mv := hmv0.weak fun _ hb _ => hb
  clear hmr0
  clear hmv0
  have hq0mr := hAmr; obtain ⟨mra, mrn, mrc, rfl, -⟩ := hq0mr
  obtain ⟨wB, hwB⟩ : ∃ wB, wB = (w.alloc (.cells #[.int .i64 mr.rows, .int .i64 mr.cols, .slice mra mrn mrc] 24)) := ⟨_, rfl⟩
  have hT : Grow w wB := by rw [hwB]; exact ((Grow.refl w).alloc _ _)
  have hBpmr := Blk.newAt w #[.int .i64 mr.rows, .int .i64 mr.cols, .slice mra mrn mrc] 24 (g := w.heap.size) (by simp)
  rw [← hwB] at hBpmr
  have HwB := Lib.hid hwB; clear hwB
  have hsB := hT.size
  have hlthBpmr := hBpmr.lt
  replace hAmr := hAmr.grow hT
  replace hAmv := hAmv.grow hT
  obtain ⟨mva, mvn, mvc, rfl, hRmv⟩ := hAmv
  have hlmv := hRmv.len
  by_cases hbmv : 1048576 < mvn
  · skip
    go_enter Try.func5, Try.ntmps5
    go_wp2_with fail
    rw [← HwB.out]
    all_goals (go_ret; exact ⟨rfl, hT⟩)
  have hAmv : VI wB (fun b => b < w.heap.size) (.slice mva mvn mvc) mv := ⟨_, _, _, rfl, hRmv⟩
  have hBmv : bdI mv ≤ 1048576 := by unfold bdI; omega
  clear hRmv
  by_cases hbmr : szM 1048576 mr < 0
  · skip
    go_enter Try.func5, Try.ntmps5
    go_wp2_with fail
    rw [← HwB.out]
    refine (sz_M hAmr (by omega) (by omega)).mono ?_; rintro e wz0 ⟨rfl, hGz0⟩; have hsz0 := hGz0.size; replace hT := hT.trans hGz0; replace hAmr := hAmr.grow hGz0; replace hAmv := hAmv.grow hGz0; replace hBpmr := hBpmr.grow hGz0; clear hGz0
    obtain ⟨⟨pchBpmr0_1, pchBpmr1_1, pchBpmr2_1⟩, -⟩ := hBpmr.three
    go_wp2_with fail
    clear pchBpmr0_1 pchBpmr1_1 pchBpmr2_1
    all_goals (go_ret; exact ⟨rfl, hT⟩)
  have hzmr := sz_M_ok (l := mr) (left := 1048576) (by omega)
  have hBmr : bdM mr ≤ 1048576 := by omega
  go_enter Try.func5, Try.ntmps5
  go_wp2_with fail
  rw [← HwB.out]
  refine (sz_M hAmr (by omega) (by omega)).mono ?_; rintro e wz0 ⟨rfl, hGz0⟩; have hsz0 := hGz0.size; replace hT := hT.trans hGz0; replace hAmr := hAmr.grow hGz0; replace hAmv := hAmv.grow hGz0; replace hBpmr := hBpmr.grow hGz0; clear hGz0
  obtain ⟨⟨pchBpmr0_2, pchBpmr1_2, pchBpmr2_2⟩, -⟩ := hBpmr.three
  go_wp2_with fail
  clear pchBpmr0_2 pchBpmr1_2 pchBpmr2_2
  refine (to_M hAmr hBmr).mono ?_
  rintro e w1 ⟨tmr, rfl, hCmr, hG1⟩
  have hs1 := hG1.size
  replace hAmr := hAmr.grow hG1
  replace hAmv := hAmv.grow hG1
  replace hBpmr := hBpmr.grow hG1
  replace hT := hT.trans hG1
  clear hG1
  obtain ⟨⟨pchBpmr0_3, pchBpmr1_3, pchBpmr2_3⟩, -⟩ := hBpmr.three
  go_wp2_with fail
  clear pchBpmr0_3 pchBpmr1_3 pchBpmr2_3
  refine (to_I hAmv hBmv).mono ?_
  rintro e w2 ⟨tmv, rfl, hCmv, hG2⟩
  have hs2 := hG2.size
  replace hAmr := hAmr.grow hG2
  replace hAmv := hAmv.grow hG2
  replace hCmr := hCmr.grow hG2
  replace hBpmr := hBpmr.grow hG2
  replace hT := hT.trans hG2
  clear hG2
  obtain ⟨⟨pchBpmr0_4, pchBpmr1_4, pchBpmr2_4⟩, -⟩ := hBpmr.three
  go_wp2_with fail
  clear pchBpmr0_4 pchBpmr1_4 pchBpmr2_4
  refine (specOrderIn_v (hCmr.rd (S := fun _ => True) fun _ _ => trivial) hBmr (hCmv.rd (S := fun _ => True) fun _ _ => trivial) hBmv).mono ?_
  rintro e w3 ⟨rfl, hG3⟩
  have hs3 := hG3.size
  replace hAmr := hAmr.grow hG3
  replace hAmv := hAmv.grow hG3
  replace hBpmr := hBpmr.grow hG3
  replace hT := hT.trans hG3
  clear hG3
  clear hCmr
  clear hCmv
  obtain ⟨⟨pchBpmr0_5, pchBpmr1_5, pchBpmr2_5⟩, -⟩ := hBpmr.three
  go_wp2_with fail
  clear pchBpmr0_5 pchBpmr1_5 pchBpmr2_5
  refine (to_M hAmr hBmr).mono ?_
  rintro e w4 ⟨xmr, rfl, hXmr, hG4⟩
  have hs4 := hG4.size
  replace hAmr := hAmr.grow hG4
  replace hAmv := hAmv.grow hG4
  replace hBpmr := hBpmr.grow hG4
  replace hT := hT.trans hG4
  clear hG4
  obtain ⟨xmra, xmrn, xmrc, rfl, hXmrx⟩ := hXmr
  replace hXmr : OM w4 (New w3 w4) (.agg #[.int .i64 (mr).rows, .int .i64 (mr).cols, .slice xmra xmrn xmrc]) mr := ⟨_, _, _, rfl, hXmrx⟩
  clear hXmrx
  have hGa := (Grow.refl w4).alloc #[.int .i64 (mr).rows, .int .i64 (mr).cols, .slice xmra xmrn xmrc] 27
  have hBkxmr := Blk.newAt w4 #[.int .i64 (mr).rows, .int .i64 (mr).cols, .slice xmra xmrn xmrc] 27 rfl
  replace hAmr := hAmr.grow hGa
  replace hAmv := hAmv.grow hGa
  replace hXmr := hXmr.grow hGa
  replace hBpmr := hBpmr.grow hGa
  replace hT := hT.trans hGa
  have hsa4 := hGa.size
  have hsb4 := hBkxmr.lt
  clear hGa
  obtain ⟨⟨chBkxmr0, chBkxmr1, chBkxmr2⟩, -⟩ := hBkxmr.three
  obtain ⟨⟨pchBpmr0_6, pchBpmr1_6, pchBpmr2_6⟩, -⟩ := hBpmr.three
  go_wp2_with fail
  clear chBkxmr0
  clear chBkxmr1
  clear chBkxmr2
  clear pchBpmr0_6 pchBpmr1_6 pchBpmr2_6
  refine (to_I hAmv hBmv).mono ?_
  rintro e w5 ⟨xmv, rfl, hXmv, hG5⟩
  have hs5 := hG5.size
  replace hAmr := hAmr.grow hG5
  replace hAmv := hAmv.grow hG5
  replace hXmr := hXmr.grow hG5
  replace hBkxmr := hBkxmr.grow hG5
  replace hBpmr := hBpmr.grow hG5
  replace hT := hT.trans hG5
  clear hG5
  obtain ⟨⟨chBkxmr0, chBkxmr1, chBkxmr2⟩, -⟩ := hBkxmr.three
  obtain ⟨⟨pchBpmr0_7, pchBpmr1_7, pchBpmr2_7⟩, -⟩ := hBpmr.three
  go_wp2_with fail
  clear chBkxmr0
  clear chBkxmr1
  clear chBkxmr2
  clear pchBpmr0_7 pchBpmr1_7 pchBpmr2_7
  refine (implOrderIn_v (hXmr.rd (S := fun _ => True) fun _ _ => trivial) hBmr (hXmv.rd (S := fun _ => True) fun _ _ => trivial) hBmv).mono ?_
  rintro e w6 ⟨rfl, hG6⟩
  have hs6 := hG6.size
  replace hAmr := hAmr.grow hG6
  replace hAmv := hAmv.grow hG6
  replace hXmr := hXmr.grow hG6
  replace hXmv := hXmv.grow hG6
  replace hBkxmr := hBkxmr.grow hG6
  replace hBpmr := hBpmr.grow hG6
  replace hT := hT.trans hG6
  clear hG6
  obtain ⟨⟨chBkxmr0, chBkxmr1, chBkxmr2⟩, -⟩ := hBkxmr.three
  obtain ⟨⟨pchBpmr0_8, pchBpmr1_8, pchBpmr2_8⟩, -⟩ := hBpmr.three
  go_wp2_with fail
  clear chBkxmr0
  clear chBkxmr1
  clear chBkxmr2
  clear pchBpmr0_8 pchBpmr1_8 pchBpmr2_8
  refine wp_region_segs (S := Grow w6) [([0, 1], some 2), ([], some 3), ([4], none)] P_mixed (by kernel_rfl) (fun _ _ _ _ _ h => h) (Grow.refl _).drew ?_
  show wpQuiet _ _ _ _ [_, _] _
  repeat (first | go_big_quiet_skip | (go_big_quiet_want; first | (apply quiet_load3 T_mat; rfl; rfl; exact (fun w' hG => hBkxmr.grow hG); go_big_quiet_on; simp only [Act.put, List.setIfInBounds_toArray, List.set_cons_succ, List.set_cons_zero]) | (apply quiet_load3 T_lmat; rfl; rfl; exact (fun w' hG => hBpmr.grow hG); go_big_quiet_on; simp only [Act.put, List.setIfInBounds_toArray, List.set_cons_succ, List.set_cons_zero]) | (go_big_quiet_op; first | go_big_quiet_on | (refine ⟨_, (fun _ _ => rfl), ?_⟩; go_big_quiet_on))))
  refine wpQuiet_nil ?_
  generalize hwd : w6.drew = w7
  have hQ : Grow w6 w7 := by rw [← hwd]; exact (Grow.refl _).drew
  clear hwd
  have hs7 := hQ.size
  replace hAmr := hAmr.grow hQ
  replace hAmv := hAmv.grow hQ
  replace hXmr := hXmr.grow hQ
  replace hXmv := hXmv.grow hQ
  replace hBkxmr := hBkxmr.grow hQ
  replace hBpmr := hBpmr.grow hQ
  replace hT := hT.trans hQ
  refine seg_go rfl (fun K hK => ?_)
  go_wp2_with fail
  refine (to_M hAmr hBmr).mono ?_
  rintro e w8 ⟨tmr, rfl, hCmr, hG8⟩
  have hs8 := hG8.size
  replace hAmr := hAmr.grow hG8
  replace hAmv := hAmv.grow hG8
  replace hXmr := hXmr.grow hG8
  replace hXmv := hXmv.grow hG8
  replace hBkxmr := hBkxmr.grow hG8
  replace hBpmr := hBpmr.grow hG8
  replace hT := hT.trans hG8
  replace hQ := hQ.trans hG8
  clear hG8
  obtain ⟨tmra, tmrn, tmrc, rfl, hCmrx⟩ := hCmr
  replace hCmr : OM w8 (New w7 w8) (.agg #[.int .i64 (mr).rows, .int .i64 (mr).cols, .slice tmra tmrn tmrc]) mr := ⟨_, _, _, rfl, hCmrx⟩
  clear hCmrx
  go_wp2_with fail
  refine hK _ _ (hQ) ?_
  clear hK K
  show wpQuiet _ _ _ _ [] _
  try (conv => arg 6; simp only [Act.put, List.setIfInBounds_toArray, List.set_cons_succ, List.set_cons_zero])
  refine wpQuiet_nil ?_
  refine seg_go rfl (fun K hK => ?_)
  go_wp2_with fail
  refine (eq_M (hXmr.rd (S := fun _ => True) fun _ _ => trivial) (hCmr.rd (S := fun _ => True) fun _ _ => trivial) (by omega)).mono ?_
  rintro e w9 ⟨rfl, hG9⟩
  have hs9 := hG9.size
  replace hAmr := hAmr.grow hG9
  replace hAmv := hAmv.grow hG9
  replace hXmr := hXmr.grow hG9
  replace hXmv := hXmv.grow hG9
  replace hBkxmr := hBkxmr.grow hG9
  replace hBpmr := hBpmr.grow hG9
  replace hT := hT.trans hG9
  replace hQ := hQ.trans hG9
  clear hG9 hCmr
  go_wp2_with fail
  refine hK _ _ (hQ) ?_
  clear hK K
  show wpQuiet _ _ _ _ [_] _
  try (conv => arg 6; simp only [Act.put, List.setIfInBounds_toArray, List.set_cons_succ, List.set_cons_zero])
  repeat (first | go_big_quiet_skip | (go_big_quiet_want; first | (apply quiet_load3 T_mat; rfl; rfl; exact (fun w' hG => hBkxmr.grow hG); go_big_quiet_on; simp only [Act.put, List.setIfInBounds_toArray, List.set_cons_succ, List.set_cons_zero]) | (apply quiet_load3 T_lmat; rfl; rfl; exact (fun w' hG => hBpmr.grow hG); go_big_quiet_on; simp only [Act.put, List.setIfInBounds_toArray, List.set_cons_succ, List.set_cons_zero]) | (go_big_quiet_op; first | go_big_quiet_on | (refine ⟨_, (fun _ _ => rfl), ?_⟩; go_big_quiet_on))))
  refine wpQuiet_nil ?_
  clear hQ
  refine wpSegs_nil ?_
  obtain ⟨⟨chBkxmr0, chBkxmr1, chBkxmr2⟩, -⟩ := hBkxmr.three
  obtain ⟨⟨pchBpmr0_9, pchBpmr1_9, pchBpmr2_9⟩, -⟩ := hBpmr.three
  go_wp2_with fail
  clear chBkxmr0
  clear chBkxmr1
  clear chBkxmr2
  clear pchBpmr0_9 pchBpmr1_9 pchBpmr2_9
  refine (to_I hAmv hBmv).mono ?_
  rintro e w10 ⟨tmv, rfl, hCmv, hG10⟩
  have hs10 := hG10.size
  replace hAmr := hAmr.grow hG10
  replace hAmv := hAmv.grow hG10
  replace hXmr := hXmr.grow hG10
  replace hXmv := hXmv.grow hG10
  replace hBkxmr := hBkxmr.grow hG10
  replace hBpmr := hBpmr.grow hG10
  replace hT := hT.trans hG10
  clear hG10
  obtain ⟨⟨chBkxmr0, chBkxmr1, chBkxmr2⟩, -⟩ := hBkxmr.three
  obtain ⟨⟨pchBpmr0_10, pchBpmr1_10, pchBpmr2_10⟩, -⟩ := hBpmr.three
  go_wp2_with fail
  clear chBkxmr0
  clear chBkxmr1
  clear chBkxmr2
  clear pchBpmr0_10 pchBpmr1_10 pchBpmr2_10
  refine (eq_I (hXmv.rd (S := fun _ => True) fun _ _ => trivial) (hCmv.rd (S := fun _ => True) fun _ _ => trivial) (by omega)).mono ?_
  rintro e w11 ⟨rfl, hG11⟩
  have hs11 := hG11.size
  replace hAmr := hAmr.grow hG11
  replace hAmv := hAmv.grow hG11
  replace hXmr := hXmr.grow hG11
  replace hXmv := hXmv.grow hG11
  replace hBkxmr := hBkxmr.grow hG11
  replace hBpmr := hBpmr.grow hG11
  replace hT := hT.trans hG11
  clear hG11
  clear hCmv
  obtain ⟨⟨chBkxmr0, chBkxmr1, chBkxmr2⟩, -⟩ := hBkxmr.three
  obtain ⟨⟨pchBpmr0_11, pchBpmr1_11, pchBpmr2_11⟩, -⟩ := hBpmr.three
  go_wp2_with fail
  clear chBkxmr0
  clear chBkxmr1
  clear chBkxmr2
  clear pchBpmr0_11 pchBpmr1_11 pchBpmr2_11
  go_ret
  exact ⟨rfl, hT⟩
set_option maxRecDepth 100000 in
theorem lifted (os : Os) (started : os.Started) (H : Type) (enc : TypeId × Value → H) :
    ReturnsInHanded {} Try.checked os 5 .any (Rows.fnExactOrderInSpec.pre6 enc Try.prog Try.f5 Rows.fnExactOrderInRow.domain false) (Rows.fnExactOrderInSpec.post enc Try.prog Try.f5 false true false false) := by
  refine law_close (C := Try.checked) (tb := 4) P_own started (by kernel_rfl) Try.func5
    (ChangeSpec.witness6 (enc := enc) (C := Try.checked) false ⟨#[], #[.agg #[.int .i64 0, .int .i64 0, .slice none 0 0], .slice none 0 0], []⟩ 8 (by kernel_rfl) (by kernel_rfl) (by kernel_rfl) (by kernel_rfl))
    P_laid ?_ rfl Try.underlying4 rfl ?_ ?_
  · exact of_decide_eq_true (by kernel_rfl)
  · intro ds hds
    match ds, hds with
    | [d0, d1], _ => rfl
  · intro W args ds ps hval0 hA0
    have hval : ∀ (j : Nat) t v, Try.f5.params[j]? = some t → args[j]? = some v → Value.okWide Try.prog W .any 0 t v := hval0
    have hA : DataW.TrodAll enc Try.prog W 0 (fun _ => true) true Try.f5.params.toList args.toList ds ps := hA0
    rw [Try.params5] at hA hval
    obtain ⟨v0, vs0, d0, ds0, p0, q0, hargs, rfl, rfl, h0, r0⟩ := trodAll_cons hA
    obtain ⟨v1, vs1, d1, ds1, p1, q1, rfl, rfl, rfl, h1, r1⟩ := trodAll_cons r0
    obtain ⟨rfl, rfl, rfl⟩ := trodAll_nil r1
    obtain rfl : args = #[v0, v1] := by cases args; simp_all
    obtain ⟨x0, hx0⟩ := openMx (hval 0 24 v0 rfl rfl) h0
    obtain ⟨x1a, x1n, x1c, x1, rfl, hx1⟩ := openI Try.underlying22 Try.underlying3 cells_int (hval 1 22 v1 rfl rfl) h1
    exact walk _ x0 _ x1 W hx0 ⟨_, _, _, rfl, hx1⟩

theorem proved : Rows.FnExactOrderInSaid :=
  OpenClaim.holds_of_wide 5 Try.f5 rfl rfl rfl rfl rfl rfl rfl ⟨rfl, rfl, rfl, rfl, rfl⟩ rfl rfl rfl rfl rfl (by kernel_rfl) Try.func5 (by kernel_rfl)
    (of_decide_eq_true (by kernel_rfl)) (by unfold Func.isWrapper; first | (rw [if_pos (by decide +kernel)]; kernel_rfl) | (rw [if_neg (by decide +kernel)]; exact ⟨rfl, rfl⟩))
    (fun os started H enc _ => lifted os started H enc)
end Go.Proofs.Ytodemejfbekjgaa.lawOrderIn
