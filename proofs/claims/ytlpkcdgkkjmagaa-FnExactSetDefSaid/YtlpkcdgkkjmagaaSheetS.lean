/-
  IsSheet: the reference's.
-/
import Derived.Test.YtlpkcdgkkjmagaaSheet
namespace Go.Proofs.Ytlpkcdgkkjmagaa
open Go.RowKit

set_option maxHeartbeats 4000000 in
set_option maxRecDepth 100000 in
theorem specIsSheet_c {S : Nat → Prop} (a : Option Addr) (n cap : Nat) (l : List Dfn) (w : World) (h : RdD w S a n cap l) (hn : n ≤ 1048576) (hcl : ∀ d ∈ l, d.value.cells.length ≤ 2097152) :
    Calls Try.prog 18 #[.slice a n cap] w fun e w' => e = .returned (.bool (sheetB l)) ∧ Grow w w' := by
  have Hl := Lib.hid h.len
  go_enter Try.func18, Try.ntmps18
  go_wp2
  go_loopw [3] (fun i wr => Grow w wr ∧ ∃ k : Nat, k ≤ n ∧ i = .int .i64 k ∧ ∀ j, j < k → defGood l j = true) (fun i _ => n - (intOf i).toNat)
  case atStart => exact ⟨Grow.refl _, 0, Nat.zero_le _, rfl, fun j hj => by omega⟩
  case round =>
    obtain ⟨hG, k, hk, rfl, he⟩ := hrel
    have He := Lib.hid he; clear he
    by_cases hlt : k < n
    · have hr := h.grow hG
      have hpre := hr.pre (k := k) (by omega)
      obtain ⟨b, off, d, a1, c1, rfl, hx, _, hbw, hd1, r1, ho⟩ := hr.at hlt
      have hcd := hcl d (List.mem_of_getElem? hx)
      have hgd : defGood l k = (isDefB d && decide (findName (l.take k) d.name < 0)) := by unfold defGood; rw [hx]
      have hR := T_defs.atH (a := some (⟨b, off, none⟩ : Addr)) (n := n) (cap := cap) (k := k) (i := k) rfl (by have := hr.cap_le; omega)
      have Hx := Lib.hid hx; clear hx
      have hkl := Lib.hid (show k < l.length by rw [Hl.out]; exact hlt)
      cases hd : isDefB d with
      | false =>
        have HD := Lib.hid hd
        have HF := Lib.hid (show defGood l k = false by rw [hgd, hd]; rfl)
        clear hd hgd
        go_wp2
        refine wp_region_segs (S := Grow wr) [([0, 1, 2, 3], some 4), ([5, 6, 7, 8, 9, 10, 11, 12, 13, 14], some 15), ([16, 17], none)] P_mixed (by kernel_rfl) (fun _ _ _ _ _ h => h) (Grow.refl _).drew ?_
        show wpQuiet _ _ _ _ [_, _, _, _] _
        repeat (first | go_big_quiet_skip | (go_big_quiet_want; first | (apply quiet_load7 T_def; rfl; rfl; exact (fun w' hG => hd1.grow hG); go_big_quiet_on; simp only [Act.put, List.setIfInBounds_toArray, List.set_cons_succ, List.set_cons_zero]) | (apply quiet_load CT_str; rfl; rfl; exact (fun w' hG => hG.cell hd1.1); go_big_quiet_on; simp only [Act.put, List.setIfInBounds_toArray, List.set_cons_succ, List.set_cons_zero]) | (apply quiet_sliceH (x := .tmp 17) (h := .tmp 18); rfl; exact hR; go_big_quiet_on; simp only [Act.put, List.setIfInBounds_toArray, List.set_cons_succ, List.set_cons_zero]) | (go_big_quiet_op; first | go_big_quiet_on | (refine ⟨_, (fun _ _ => rfl), ?_⟩; go_big_quiet_on))))
        refine wpQuiet_nil ?_
        refine seg_go rfl (fun K hK => ?_)
        go_wp2_with fail
        refine (specIsDef_c (d := d) ⟨_, _, _, rfl, r1.grow (Grow.refl _).drew, ho⟩ hcd).mono ?_
        rintro e w1 ⟨rfl, hGq⟩
        have hGx := (Grow.refl wr).drew.trans hGq
        clear hGq
        rw [HD.out]
        go_wp2_with fail
        refine hK _ _ (hGx) ?_
        clear hK K
        show wpQuiet _ _ _ _ [_, _, _, _, _, _, _, _, _, _] _
        try (conv => arg 6; simp only [Act.put, List.setIfInBounds_toArray, List.set_cons_succ, List.set_cons_zero])
        repeat (first | go_big_quiet_skip | (go_big_quiet_want; first | (apply quiet_load7 T_def; rfl; rfl; exact (fun w' hG => hd1.grow hG); go_big_quiet_on; simp only [Act.put, List.setIfInBounds_toArray, List.set_cons_succ, List.set_cons_zero]) | (apply quiet_load CT_str; rfl; rfl; exact (fun w' hG => hG.cell hd1.1); go_big_quiet_on; simp only [Act.put, List.setIfInBounds_toArray, List.set_cons_succ, List.set_cons_zero]) | (apply quiet_sliceH (x := .tmp 17) (h := .tmp 18); rfl; exact hR; go_big_quiet_on; simp only [Act.put, List.setIfInBounds_toArray, List.set_cons_succ, List.set_cons_zero]) | (go_big_quiet_op; first | go_big_quiet_on | (refine ⟨_, (fun _ _ => rfl), ?_⟩; go_big_quiet_on))))
        refine wpQuiet_nil ?_
        refine seg_skip rfl (hGx) ?_
        show wpQuiet _ _ _ _ [_, _] _
        try (conv => arg 6; simp only [Act.put, List.setIfInBounds_toArray, List.set_cons_succ, List.set_cons_zero])
        repeat (first | go_big_quiet_skip | (go_big_quiet_want; first | (apply quiet_load7 T_def; rfl; rfl; exact (fun w' hG => hd1.grow hG); go_big_quiet_on; simp only [Act.put, List.setIfInBounds_toArray, List.set_cons_succ, List.set_cons_zero]) | (apply quiet_load CT_str; rfl; rfl; exact (fun w' hG => hG.cell hd1.1); go_big_quiet_on; simp only [Act.put, List.setIfInBounds_toArray, List.set_cons_succ, List.set_cons_zero]) | (apply quiet_sliceH (x := .tmp 17) (h := .tmp 18); rfl; exact hR; go_big_quiet_on; simp only [Act.put, List.setIfInBounds_toArray, List.set_cons_succ, List.set_cons_zero]) | (go_big_quiet_op; first | go_big_quiet_on | (refine ⟨_, (fun _ _ => rfl), ?_⟩; go_big_quiet_on))))
        refine wpQuiet_nil ?_
        refine wpSegs_nil ?_
        go_wp2
        go_ret
        exact ⟨ret_bool (sheet_no hkl.out HF.out).symm, hG.trans hGx⟩
      | true =>
        have HD := Lib.hid hd
        by_cases hq : 0 ≤ findName (l.take k) d.name
        · have HF := Lib.hid (show defGood l k = false by rw [hgd, decide_eq_false (by omega)]; simp)
          clear hd hgd
          generalize hfn : findName (l.take k) d.name = fn at *
          have Hfn := Lib.hid hfn; clear hfn
          go_wp2
          refine wp_region_segs (S := Grow wr) [([0, 1, 2, 3], some 4), ([5, 6, 7, 8, 9, 10, 11, 12, 13, 14], some 15), ([16, 17], none)] P_mixed (by kernel_rfl) (fun _ _ _ _ _ h => h) (Grow.refl _).drew ?_
          show wpQuiet _ _ _ _ [_, _, _, _] _
          repeat (first | go_big_quiet_skip | (go_big_quiet_want; first | (apply quiet_load7 T_def; rfl; rfl; exact (fun w' hG => hd1.grow hG); go_big_quiet_on; simp only [Act.put, List.setIfInBounds_toArray, List.set_cons_succ, List.set_cons_zero]) | (apply quiet_load CT_str; rfl; rfl; exact (fun w' hG => hG.cell hd1.1); go_big_quiet_on; simp only [Act.put, List.setIfInBounds_toArray, List.set_cons_succ, List.set_cons_zero]) | (apply quiet_sliceH (x := .tmp 17) (h := .tmp 18); rfl; exact hR; go_big_quiet_on; simp only [Act.put, List.setIfInBounds_toArray, List.set_cons_succ, List.set_cons_zero]) | (go_big_quiet_op; first | go_big_quiet_on | (refine ⟨_, (fun _ _ => rfl), ?_⟩; go_big_quiet_on))))
          refine wpQuiet_nil ?_
          refine seg_go rfl (fun K hK => ?_)
          go_wp2_with fail
          refine (specIsDef_c (d := d) ⟨_, _, _, rfl, r1.grow (Grow.refl _).drew, ho⟩ hcd).mono ?_
          rintro e w1 ⟨rfl, hGq⟩
          have hGx := (Grow.refl wr).drew.trans hGq
          clear hGq
          rw [HD.out]
          go_wp2_with fail
          refine hK _ _ (hGx) ?_
          clear hK K
          show wpQuiet _ _ _ _ [_, _, _, _, _, _, _, _, _, _] _
          try (conv => arg 6; simp only [Act.put, List.setIfInBounds_toArray, List.set_cons_succ, List.set_cons_zero])
          repeat (first | go_big_quiet_skip | (go_big_quiet_want; first | (apply quiet_load7 T_def; rfl; rfl; exact (fun w' hG => hd1.grow hG); go_big_quiet_on; simp only [Act.put, List.setIfInBounds_toArray, List.set_cons_succ, List.set_cons_zero]) | (apply quiet_load CT_str; rfl; rfl; exact (fun w' hG => hG.cell hd1.1); go_big_quiet_on; simp only [Act.put, List.setIfInBounds_toArray, List.set_cons_succ, List.set_cons_zero]) | (apply quiet_sliceH (x := .tmp 17) (h := .tmp 18); rfl; exact hR; go_big_quiet_on; simp only [Act.put, List.setIfInBounds_toArray, List.set_cons_succ, List.set_cons_zero]) | (go_big_quiet_op; first | go_big_quiet_on | (refine ⟨_, (fun _ _ => rfl), ?_⟩; go_big_quiet_on))))
          refine wpQuiet_nil ?_
          refine seg_go rfl (fun K hK => ?_)
          go_wp2_with fail
          refine (specFindDef_c _ _ _ (l.take k) d.name _ (hpre.grow hGx) (by omega)).mono ?_
          rintro e w2 ⟨rfl, rfl⟩
          rw [Hfn.out]
          go_wp2_with fail
          refine hK _ _ (hGx) ?_
          clear hK K
          show wpQuiet _ _ _ _ [_, _] _
          try (conv => arg 6; simp only [Act.put, List.setIfInBounds_toArray, List.set_cons_succ, List.set_cons_zero])
          repeat (first | go_big_quiet_skip | (go_big_quiet_want; first | (apply quiet_load7 T_def; rfl; rfl; exact (fun w' hG => hd1.grow hG); go_big_quiet_on; simp only [Act.put, List.setIfInBounds_toArray, List.set_cons_succ, List.set_cons_zero]) | (apply quiet_load CT_str; rfl; rfl; exact (fun w' hG => hG.cell hd1.1); go_big_quiet_on; simp only [Act.put, List.setIfInBounds_toArray, List.set_cons_succ, List.set_cons_zero]) | (apply quiet_sliceH (x := .tmp 17) (h := .tmp 18); rfl; exact hR; go_big_quiet_on; simp only [Act.put, List.setIfInBounds_toArray, List.set_cons_succ, List.set_cons_zero]) | (go_big_quiet_op; first | go_big_quiet_on | (refine ⟨_, (fun _ _ => rfl), ?_⟩; go_big_quiet_on))))
          refine wpQuiet_nil ?_
          refine wpSegs_nil ?_
          go_wp2
          go_ret
          exact ⟨ret_bool (sheet_no hkl.out HF.out).symm, hG.trans hGx⟩
        · have HF := Lib.hid (show defGood l k = true by rw [hgd, hd, decide_eq_true (by omega)]; rfl)
          clear hd hgd
          generalize hfn : findName (l.take k) d.name = fn at *
          have Hfn := Lib.hid hfn; clear hfn
          go_wp2
          refine wp_region_segs (S := Grow wr) [([0, 1, 2, 3], some 4), ([5, 6, 7, 8, 9, 10, 11, 12, 13, 14], some 15), ([16, 17], none)] P_mixed (by kernel_rfl) (fun _ _ _ _ _ h => h) (Grow.refl _).drew ?_
          show wpQuiet _ _ _ _ [_, _, _, _] _
          repeat (first | go_big_quiet_skip | (go_big_quiet_want; first | (apply quiet_load7 T_def; rfl; rfl; exact (fun w' hG => hd1.grow hG); go_big_quiet_on; simp only [Act.put, List.setIfInBounds_toArray, List.set_cons_succ, List.set_cons_zero]) | (apply quiet_load CT_str; rfl; rfl; exact (fun w' hG => hG.cell hd1.1); go_big_quiet_on; simp only [Act.put, List.setIfInBounds_toArray, List.set_cons_succ, List.set_cons_zero]) | (apply quiet_sliceH (x := .tmp 17) (h := .tmp 18); rfl; exact hR; go_big_quiet_on; simp only [Act.put, List.setIfInBounds_toArray, List.set_cons_succ, List.set_cons_zero]) | (go_big_quiet_op; first | go_big_quiet_on | (refine ⟨_, (fun _ _ => rfl), ?_⟩; go_big_quiet_on))))
          refine wpQuiet_nil ?_
          refine seg_go rfl (fun K hK => ?_)
          go_wp2_with fail
          refine (specIsDef_c (d := d) ⟨_, _, _, rfl, r1.grow (Grow.refl _).drew, ho⟩ hcd).mono ?_
          rintro e w1 ⟨rfl, hGq⟩
          have hGx := (Grow.refl wr).drew.trans hGq
          clear hGq
          rw [HD.out]
          go_wp2_with fail
          refine hK _ _ (hGx) ?_
          clear hK K
          show wpQuiet _ _ _ _ [_, _, _, _, _, _, _, _, _, _] _
          try (conv => arg 6; simp only [Act.put, List.setIfInBounds_toArray, List.set_cons_succ, List.set_cons_zero])
          repeat (first | go_big_quiet_skip | (go_big_quiet_want; first | (apply quiet_load7 T_def; rfl; rfl; exact (fun w' hG => hd1.grow hG); go_big_quiet_on; simp only [Act.put, List.setIfInBounds_toArray, List.set_cons_succ, List.set_cons_zero]) | (apply quiet_load CT_str; rfl; rfl; exact (fun w' hG => hG.cell hd1.1); go_big_quiet_on; simp only [Act.put, List.setIfInBounds_toArray, List.set_cons_succ, List.set_cons_zero]) | (apply quiet_sliceH (x := .tmp 17) (h := .tmp 18); rfl; exact hR; go_big_quiet_on; simp only [Act.put, List.setIfInBounds_toArray, List.set_cons_succ, List.set_cons_zero]) | (go_big_quiet_op; first | go_big_quiet_on | (refine ⟨_, (fun _ _ => rfl), ?_⟩; go_big_quiet_on))))
          refine wpQuiet_nil ?_
          refine seg_go rfl (fun K hK => ?_)
          go_wp2_with fail
          refine (specFindDef_c _ _ _ (l.take k) d.name _ (hpre.grow hGx) (by omega)).mono ?_
          rintro e w2 ⟨rfl, rfl⟩
          rw [Hfn.out]
          go_wp2_with fail
          refine hK _ _ (hGx) ?_
          clear hK K
          show wpQuiet _ _ _ _ [_, _] _
          try (conv => arg 6; simp only [Act.put, List.setIfInBounds_toArray, List.set_cons_succ, List.set_cons_zero])
          repeat (first | go_big_quiet_skip | (go_big_quiet_want; first | (apply quiet_load7 T_def; rfl; rfl; exact (fun w' hG => hd1.grow hG); go_big_quiet_on; simp only [Act.put, List.setIfInBounds_toArray, List.set_cons_succ, List.set_cons_zero]) | (apply quiet_load CT_str; rfl; rfl; exact (fun w' hG => hG.cell hd1.1); go_big_quiet_on; simp only [Act.put, List.setIfInBounds_toArray, List.set_cons_succ, List.set_cons_zero]) | (apply quiet_sliceH (x := .tmp 17) (h := .tmp 18); rfl; exact hR; go_big_quiet_on; simp only [Act.put, List.setIfInBounds_toArray, List.set_cons_succ, List.set_cons_zero]) | (go_big_quiet_op; first | go_big_quiet_on | (refine ⟨_, (fun _ _ => rfl), ?_⟩; go_big_quiet_on))))
          refine wpQuiet_nil ?_
          refine wpSegs_nil ?_
          go_wp2
          go_roundw
          case rel =>
            refine ⟨hG.trans hGx, k + 1, by omega, by go_num, fun j hj => ?_⟩
            rcases Nat.lt_succ_iff_lt_or_eq.1 hj with hj | rfl
            · exact He.out j hj
            · exact HF.out
          case measure => simp [intOf]; omega
    · go_wp2
      go_ret
      have : k = n := by omega
      subst this
      have hy := sheet_yes (l := l) fun j hj => He.out j (by rw [Hl.out] at hj; exact hj)
      exact ⟨ret_bool (by rw [hy, Hl.out, decide_eq_decide]; omega), hG⟩
end Go.Proofs.Ytlpkcdgkkjmagaa
