/-
  Definitions as text: the reference's FormatDef.
-/
import Derived.Test.YtdnpdfokdibmdaaGreatDoorZFmtD
namespace Go.Proofs.YtdnpdfokdibmdaaGreatDoor
open Go.RowKit

set_option maxHeartbeats 8000000 in
set_option maxRecDepth 100000 in
theorem sFormatDef_c {S : Nat → Prop} {v : Value} {d : Dfn} {w : World} (h : VD w S v d) (hb : d.value.cells.length ≤ 2097152) :
    Calls Tryz.prog 23 #[v] w fun e w' => e = .returned (.string (bstr (fmtD d))) ∧ Grow w w' := by
  have hVD := h
  obtain ⟨a, n, c, rfl, h, ho⟩ := h
  obtain ⟨o1, o2, o3, o4, o5, o6⟩ := ho
  have hG1 := (Grow.refl w).alloc #[.string d.name, .int .i64 d.op, .string d.a, .string d.b, .int .i64 d.value.rows, .int .i64 d.value.cols, .slice a n c] 28
  have bM := Blk.new w #[.string d.name, .int .i64 d.op, .string d.a, .string d.b, .int .i64 d.value.rows, .int .i64 d.value.cols, .slice a n c] 28
  obtain ⟨⟨m0, m1, m2, m3, m4, m5, m6⟩, -⟩ := bM.seven
  have ho2 := o2
  unfold I64 at o2
  cases hok : isDefB d with
  | false =>
    have Hz := Lib.hid (fmtD_no hok)
    go_enter Tryz.func23, Tryz.ntmps23
    go_wp2_with fail
    refine (specIsDef_c (hVD.grow hG1) hb).mono ?_
    rw [hok]
    rintro e w2 ⟨rfl, hG2⟩
    clear hok
    go_wp2
    go_ret
    exact ⟨by rw [Hz.out]; rfl, hG1.trans hG2⟩
  | true =>
    obtain ⟨r1, r2, r3, r4, r5⟩ := isDefB_rng hok
    have Hok := Lib.hid hok
    go_enter Tryz.func23, Tryz.ntmps23
    go_wp2_with fail
    refine (specIsDef_c (hVD.grow hG1) hb).mono ?_
    rw [hok]
    rintro e w2 ⟨rfl, hG2⟩
    have bM2 := bM.grow hG2
    have hG12 := hG1.trans hG2
    clear hok m0 m1 m2 m3 m4 m5 m6
    obtain ⟨⟨m0, m1, m2, m3, m4, m5, m6⟩, -⟩ := bM2.seven
    by_cases h0 : d.op = 0
    · have q0 : (d.op == 0) = true := by simp [h0]
      have Hf := Lib.hid (fmtD_val Hok.out h0)
      have hfl := fmtM_len d.value
      clear h0
      go_wp2
      refine wp_region_segs (S := Grow w2) [([0, 1, 2, 3, 4], some 5), ([6, 7], none)] P_mixed (by kernel_rfl) (fun _ _ _ _ _ h => h) (Grow.refl _).drew ?_
      show wpQuiet _ _ _ _ [_, _, _, _, _] _
      repeat (first | go_big_quiet_skip | (go_big_quiet_want; first | (apply quiet_load CT_string; rfl; rfl; exact (fun w' hG => hG.cell m0); go_big_quiet_on; simp only [Act.put, List.setIfInBounds_toArray, List.set_cons_succ, List.set_cons_zero]) | (apply quiet_load3F T_mat; rfl; rfl; exact (fun w' hG => ⟨hG.cell m4, hG.cell m5, hG.cell m6⟩); go_big_quiet_on; simp only [Act.put, List.setIfInBounds_toArray, List.set_cons_succ, List.set_cons_zero]) | (go_big_quiet_op; first | go_big_quiet_on | (refine ⟨_, (fun _ _ => rfl), ?_⟩; go_big_quiet_on))))
      refine wpQuiet_nil ?_
      refine seg_go rfl (fun K hK => ?_)
      go_wp2_with fail
      refine (sFormatMatrix_c (m := d.value) (S := S) ⟨a, n, c, rfl, (h.grow hG12).grow (Grow.refl w2).drew, o5, o6⟩ hb).mono ?_
      rintro e w3 ⟨rfl, hG3⟩
      have hGa := (Grow.refl w2).drew.trans hG3
      go_wp2_with fail
      refine hK _ _ (hGa) ?_
      clear hK K
      show wpQuiet _ _ _ _ [_, _] _
      try (conv => arg 6; simp only [Act.put, List.setIfInBounds_toArray, List.set_cons_succ, List.set_cons_zero])
      repeat (first | go_big_quiet_skip | (go_big_quiet_want; first | (apply quiet_load CT_string; rfl; rfl; exact (fun w' hG => hG.cell m0); go_big_quiet_on; simp only [Act.put, List.setIfInBounds_toArray, List.set_cons_succ, List.set_cons_zero]) | (apply quiet_load3F T_mat; rfl; rfl; exact (fun w' hG => ⟨hG.cell m4, hG.cell m5, hG.cell m6⟩); go_big_quiet_on; simp only [Act.put, List.setIfInBounds_toArray, List.set_cons_succ, List.set_cons_zero]) | (go_big_quiet_op; first | go_big_quiet_on | (refine ⟨_, (fun _ _ => rfl), ?_⟩; go_big_quiet_on))))
      refine wpQuiet_nil ?_
      refine wpSegs_nil ?_
      go_wp2
      go_ret
      exact ⟨by rw [← Hf.out]; rfl, hG12.trans hGa⟩
    · have q0 : (d.op == 0) = false := by simp [h0]
      have hol := opw_len d.op
      have H2 := Lib.hid (fmtD_two (d := d) Hok.out h0)
      have H3 := Lib.hid (fmtD_three (d := d) Hok.out h0)
      clear h0
      go_wp2
      refine wp_region_segs (S := Grow w2) [([0, 1, 2, 3, 4, 8, 9], some 5), ([6, 7, 10, 11], none)] P_mixed (by kernel_rfl) (fun _ _ _ _ _ h => h) (Grow.refl _).drew ?_
      show wpQuiet _ _ _ _ [_, _, _, _, _, _, _] _
      repeat (first | go_big_quiet_skip | (go_big_quiet_want; first | (apply quiet_load CT_string; rfl; rfl; exact (fun w' hG => hG.cell m0); go_big_quiet_on; simp only [Act.put, List.setIfInBounds_toArray, List.set_cons_succ, List.set_cons_zero]) | (apply quiet_load CT_int; rfl; rfl; exact (fun w' hG => hG.cell m1); go_big_quiet_on; simp only [Act.put, List.setIfInBounds_toArray, List.set_cons_succ, List.set_cons_zero]) | (apply quiet_load CT_string; rfl; rfl; exact (fun w' hG => hG.cell m2); go_big_quiet_on; simp only [Act.put, List.setIfInBounds_toArray, List.set_cons_succ, List.set_cons_zero]) | (go_big_quiet_op; first | go_big_quiet_on | (refine ⟨_, (fun _ _ => rfl), ?_⟩; go_big_quiet_on))))
      refine wpQuiet_nil ?_
      refine seg_go rfl (fun K hK => ?_)
      go_wp2_with fail
      refine (l37Op_c d.op _ ho2).mono ?_
      rintro e w3 ⟨rfl, hG3⟩
      have hGa := (Grow.refl w2).drew.trans hG3
      go_wp2_with fail
      refine hK _ _ (hGa) ?_
      clear hK K
      show wpQuiet _ _ _ _ [_, _, _, _] _
      try (conv => arg 6; simp only [Act.put, List.setIfInBounds_toArray, List.set_cons_succ, List.set_cons_zero])
      repeat (first | go_big_quiet_skip | (go_big_quiet_want; first | (apply quiet_load CT_string; rfl; rfl; exact (fun w' hG => hG.cell m0); go_big_quiet_on; simp only [Act.put, List.setIfInBounds_toArray, List.set_cons_succ, List.set_cons_zero]) | (apply quiet_load CT_int; rfl; rfl; exact (fun w' hG => hG.cell m1); go_big_quiet_on; simp only [Act.put, List.setIfInBounds_toArray, List.set_cons_succ, List.set_cons_zero]) | (apply quiet_load CT_string; rfl; rfl; exact (fun w' hG => hG.cell m2); go_big_quiet_on; simp only [Act.put, List.setIfInBounds_toArray, List.set_cons_succ, List.set_cons_zero]) | (go_big_quiet_op; first | go_big_quiet_on | (refine ⟨_, (fun _ _ => rfl), ?_⟩; go_big_quiet_on))))
      refine wpQuiet_nil ?_
      refine wpSegs_nil ?_
      have bM3 := bM2.grow hGa
      clear m0 m1 m2 m3 m4 m5 m6
      obtain ⟨⟨m0, m1, m2, m3, m4, m5, m6⟩, -⟩ := bM3.seven
      cases hbe : d.b.toList.isEmpty with
      | true =>
        have Hf := Lib.hid (H2.out hbe)
        have hbn : (!d.b.toList.isEmpty) = false := by rw [hbe]; rfl
        go_wp2
        go_ret
        exact ⟨by rw [← Hf.out]; rfl, hG12.trans hGa⟩
      | false =>
        have Hf := Lib.hid (H3.out hbe)
        have hbn : (!d.b.toList.isEmpty) = true := by rw [hbe]; rfl
        go_wp2
        go_ret
        exact ⟨by rw [← Hf.out]; rfl, hG12.trans hGa⟩
end Go.Proofs.YtdnpdfokdibmdaaGreatDoor
