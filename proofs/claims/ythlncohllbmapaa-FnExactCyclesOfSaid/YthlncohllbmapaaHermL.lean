/-
  The reference's least row; whether a row is alone.
-/
import Derived.Test.YthlncohllbmapaaHermK
namespace Go.Proofs.Ythlncohllbmapaa
open Go.RowKit

set_option maxHeartbeats 4000000 in
set_option maxRecDepth 100000 in
theorem l12Least_c {S : Nat → Prop} (a : Option Addr) (n cp C R t j : Nat) (cells : List Int) (w : World) (h : RdI w S a n cp cells) (hl : cells.length = R * C) (hn : NumL cells) (ht : t ≤ R) (hj : j < C) (hR : R ≤ 24) (hC : C ≤ 24) :
    Calls Try.prog 129 #[.agg #[.int .i64 R, .int .i64 C, .slice a n cp], .int .i64 t, .int .i64 j] w fun e w' => e = .returned (.int .i64 (leastN cells C j t (R - t))) ∧ Grow w w' := by
  have hnl := h.len
  obtain ⟨w2, hw2⟩ : ∃ w2, w2 = w.alloc (.cells #[.int .i64 (R : Int), .int .i64 (C : Int), .slice a n cp] 27) := ⟨_, rfl⟩
  have hG2 : Grow w w2 := by rw [hw2]; exact (Grow.refl w).alloc _ _
  have bM : Blk w2 w.heap.size #[.int .i64 (R : Int), .int .i64 (C : Int), .slice a n cp] 27 := by rw [hw2]; exact Blk.new w _ _
  have Hw2 := Lib.hid hw2; clear hw2
  have Hl := Lib.hid hl; have Hnl := Lib.hid hnl; clear hl hnl
  replace h := h.grow hG2
  go_enter Try.func129, Try.ntmps129
  go_wp2
  rw [← Hw2.out]
  go_loopw [7, 8] (fun b q wr => Grow w2 wr ∧ ∃ k : Nat, k ≤ R - t ∧ q = .int .i64 ((t + k : Nat) : Int) ∧ b = .int .i64 (leastN cells C j t k)) (fun _ q _ => R - (intOf q).toNat)
  case atStart => exact ⟨Grow.refl _, 0, Nat.zero_le _, rfl, rfl⟩
  case round =>
    obtain ⟨hG, k, hk, rfl, rfl⟩ := hrel
    have bMr := bM.grow hG
    have hr := h.grow hG
    obtain ⟨⟨a0, a1, a2⟩, -⟩ := bMr.three
    have hltM := bMr.lt
    have hsp := leastN_spec cells C j t k
    by_cases hlt : t + k < R
    · have hp1 := place_lt (i := t + k) hj hlt
      have hni : (t + k) * C + j < n := by rw [← Hnl.out, Hl.out]; exact hp1
      have hx := cell_num hn C (t + k) j
      have hstep := Lib.hid (show leastN cells C j t (k + 1) = if cell cells C (t + k) j ≠ 0 ∧ (leastN cells C j t k < 0 ∨ (cell cells C (t + k) j).natAbs < (cell cells C (leastN cells C j t k).toNat j).natAbs) then ((t + k : Nat) : Int) else leastN cells C j t k from rfl)
      clear hp1
      go_wp2_with fail
      refine (l12Cell_c a n cp C (t + k) j (R : Int) cells _ hr hni (by omega) (by omega) (by omega)).mono ?_
      rintro e w3 ⟨rfl, hG3⟩
      clear hni
      replace hr := hr.grow hG3
      replace bMr := bMr.grow hG3
      have hG23 := hG.trans hG3
      clear a0 a1 a2 hltM hG hG3
      generalize hxc : cell cells C (t + k) j = x at *
      clear hxc
      by_cases hx0 : x = 0
      · have HL := Lib.hid (show leastN cells C j t (k + 1) = leastN cells C j t k by rw [hstep.out, if_neg (by simp [hx0])])
        subst hx0
        have hGn := hG23.drew
        clear hstep
        generalize leastN cells C j t k = L at *
        go_wp2
        refine wp_region_segs (S := Grow w3) [([0, 1, 2, 3, 4, 5, 6, 8, 9, 10], some 7), ([], some 11), ([], some 12), ([13, 14, 15], none)] P_mixed (by kernel_rfl) (fun _ _ _ _ _ h => h) (Grow.refl _).drew ?_
        show wpQuiet _ _ _ _ [_, _, _, _, _, _, _, _, _, _] _
        repeat (first | go_big_quiet_skip | (go_big_quiet_want; first | (go_big_quiet_op; first | go_big_quiet_on | (refine ⟨_, (fun _ _ => rfl), ?_⟩; go_big_quiet_on))))
        refine wpQuiet_nil ?_
        refine seg_skip rfl ((Grow.refl _).drew) ?_
        show wpQuiet _ _ _ _ [] _
        try (conv => arg 6; simp only [Act.put, List.setIfInBounds_toArray, List.set_cons_succ, List.set_cons_zero])
        refine wpQuiet_nil ?_
        refine seg_skip rfl ((Grow.refl _).drew) ?_
        show wpQuiet _ _ _ _ [] _
        try (conv => arg 6; simp only [Act.put, List.setIfInBounds_toArray, List.set_cons_succ, List.set_cons_zero])
        refine wpQuiet_nil ?_
        refine seg_skip rfl ((Grow.refl _).drew) ?_
        show wpQuiet _ _ _ _ [_, _, _] _
        try (conv => arg 6; simp only [Act.put, List.setIfInBounds_toArray, List.set_cons_succ, List.set_cons_zero])
        repeat (first | go_big_quiet_skip | (go_big_quiet_want; first | (go_big_quiet_op; first | go_big_quiet_on | (refine ⟨_, (fun _ _ => rfl), ?_⟩; go_big_quiet_on))))
        refine wpQuiet_nil ?_
        refine wpSegs_nil ?_
        go_wp2
        go_roundw
        case rel => exact ⟨hGn, k + 1, by omega, by go_num, by rw [HL.out] <;> try go_num⟩
        case measure => simp [intOf]; omega
      · have q1 : (x != 0) = true := by simpa using hx0
        rcases hsp with ⟨hL, _⟩ | ⟨p, hL, hp1, hp2, hp3, _⟩
        · have HL := Lib.hid (show leastN cells C j t (k + 1) = ((t + k : Nat) : Int) by rw [hstep.out, if_pos ⟨hx0, .inl (by omega)⟩])
          have hGn := hG23.drew
          clear hstep
          rw [hL]
          clear hL
          go_wp2
          refine wp_region_segs (S := Grow w3) [([0, 1, 2, 3, 4, 5, 6, 8, 9, 10], some 7), ([], some 11), ([], some 12), ([13, 14, 15], none)] P_mixed (by kernel_rfl) (fun _ _ _ _ _ h => h) (Grow.refl _).drew ?_
          show wpQuiet _ _ _ _ [_, _, _, _, _, _, _, _, _, _] _
          repeat (first | go_big_quiet_skip | (go_big_quiet_want; first | (go_big_quiet_op; first | go_big_quiet_on | (refine ⟨_, (fun _ _ => rfl), ?_⟩; go_big_quiet_on))))
          refine wpQuiet_nil ?_
          refine seg_skip rfl ((Grow.refl _).drew) ?_
          show wpQuiet _ _ _ _ [] _
          try (conv => arg 6; simp only [Act.put, List.setIfInBounds_toArray, List.set_cons_succ, List.set_cons_zero])
          refine wpQuiet_nil ?_
          refine seg_skip rfl ((Grow.refl _).drew) ?_
          show wpQuiet _ _ _ _ [] _
          try (conv => arg 6; simp only [Act.put, List.setIfInBounds_toArray, List.set_cons_succ, List.set_cons_zero])
          refine wpQuiet_nil ?_
          refine seg_skip rfl ((Grow.refl _).drew) ?_
          show wpQuiet _ _ _ _ [_, _, _] _
          try (conv => arg 6; simp only [Act.put, List.setIfInBounds_toArray, List.set_cons_succ, List.set_cons_zero])
          repeat (first | go_big_quiet_skip | (go_big_quiet_want; first | (go_big_quiet_op; first | go_big_quiet_on | (refine ⟨_, (fun _ _ => rfl), ?_⟩; go_big_quiet_on))))
          refine wpQuiet_nil ?_
          refine wpSegs_nil ?_
          go_wp2
          go_roundw
          case rel => exact ⟨hGn, k + 1, by omega, by go_num, by rw [HL.out] <;> try go_num⟩
          case measure => simp [intOf]; omega
        · have hnp : p * C + j < n := by rw [← Hnl.out, Hl.out]; exact place_lt hj (by omega)
          have hy := cell_num hn C p j
          have hst2 := Lib.hid (show leastN cells C j t (k + 1) = if x.natAbs < (cell cells C p j).natAbs then ((t + k : Nat) : Int) else (p : Int) by
            rw [hstep.out, hL, Int.toNat_natCast]
            by_cases hc : x.natAbs < (cell cells C p j).natAbs
            · rw [if_pos ⟨hx0, .inr hc⟩, if_pos hc]
            · rw [if_neg (by rintro ⟨_, h | h⟩ <;> omega), if_neg hc])
          rw [hL]
          have q2 : decide ((p : Int) < 0) = false := decide_eq_false (by omega)
          clear hL hstep hp3
          go_wp2
          refine wp_region_segs (S := Grow w3) [([0, 1, 2, 3, 4, 5, 6, 8, 9, 10], some 7), ([], some 11), ([], some 12), ([13, 14, 15], none)] P_mixed (by kernel_rfl) (fun _ _ _ _ _ h => h) (Grow.refl _).drew ?_
          show wpQuiet _ _ _ _ [_, _, _, _, _, _, _, _, _, _] _
          repeat (first | go_big_quiet_skip | (go_big_quiet_want; first | (apply quiet_load3 T_mat; rfl; rfl; exact (fun w' hG => bMr.grow hG); go_big_quiet_on; simp only [Act.put, List.setIfInBounds_toArray, List.set_cons_succ, List.set_cons_zero]) | (go_big_quiet_op; first | go_big_quiet_on | (refine ⟨_, (fun _ _ => rfl), ?_⟩; go_big_quiet_on))))
          refine wpQuiet_nil ?_
          refine seg_go rfl (fun K hK => ?_)
          go_wp2_with fail
          refine (l1Abs_c x _ (by omega)).mono ?_
          rintro e _ ⟨rfl, rfl⟩
          go_wp2_with fail
          refine hK _ _ ((Grow.refl _).drew) ?_
          clear hK K
          show wpQuiet _ _ _ _ [] _
          try (conv => arg 6; simp only [Act.put, List.setIfInBounds_toArray, List.set_cons_succ, List.set_cons_zero])
          refine wpQuiet_nil ?_
          refine seg_go rfl (fun K hK => ?_)
          go_wp2_with fail
          refine (l12Cell_c a n cp C p j (R : Int) cells _ (hr.grow (Grow.refl _).drew) hnp (by omega) (by omega) (by omega)).mono ?_
          rintro e w4 ⟨rfl, hG4⟩
          have hG34 := (Grow.refl w3).drew.trans hG4
          generalize cell cells C p j = y at *
          go_wp2_with fail
          refine hK _ _ (hG34) ?_
          clear hK K
          show wpQuiet _ _ _ _ [] _
          try (conv => arg 6; simp only [Act.put, List.setIfInBounds_toArray, List.set_cons_succ, List.set_cons_zero])
          refine wpQuiet_nil ?_
          refine seg_go rfl (fun K hK => ?_)
          go_wp2_with fail
          refine (l1Abs_c y _ (by omega)).mono ?_
          rintro e _ ⟨rfl, rfl⟩
          go_wp2_with fail
          refine hK _ _ (hG34) ?_
          clear hK K
          show wpQuiet _ _ _ _ [_, _, _] _
          try (conv => arg 6; simp only [Act.put, List.setIfInBounds_toArray, List.set_cons_succ, List.set_cons_zero])
          repeat (first | go_big_quiet_skip | (go_big_quiet_want; first | (apply quiet_load3 T_mat; rfl; rfl; exact (fun w' hG => bMr.grow hG); go_big_quiet_on; simp only [Act.put, List.setIfInBounds_toArray, List.set_cons_succ, List.set_cons_zero]) | (go_big_quiet_op; first | go_big_quiet_on | (refine ⟨_, (fun _ _ => rfl), ?_⟩; go_big_quiet_on))))
          refine wpQuiet_nil ?_
          refine wpSegs_nil ?_
          have hGn := hG23.trans hG34
          by_cases hc : x.natAbs < y.natAbs
          · have HL := Lib.hid (show leastN cells C j t (k + 1) = ((t + k : Nat) : Int) by rw [hst2.out, if_pos hc])
            clear hst2
            go_wp2
            go_roundw
            case rel => exact ⟨hGn, k + 1, by omega, by go_num, by rw [HL.out] <;> try go_num⟩
            case measure => simp [intOf]; omega
          · have HL := Lib.hid (show leastN cells C j t (k + 1) = (p : Int) by rw [hst2.out, if_neg hc])
            clear hst2
            go_wp2
            go_roundw
            case rel => exact ⟨hGn, k + 1, by omega, by go_num, by rw [HL.out] <;> try go_num⟩
            case measure => simp [intOf]; omega
    · have hkr : k = R - t := by omega
      go_wp2
      go_ret
      exact ⟨by rw [hkr]; rfl, hG2.trans hG⟩
end Go.Proofs.Ythlncohllbmapaa
