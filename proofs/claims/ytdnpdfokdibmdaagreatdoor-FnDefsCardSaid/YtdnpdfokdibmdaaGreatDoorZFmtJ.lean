/-
  Matrices as text: the program's FormatMatrix.
-/
import Derived.Test.YtdnpdfokdibmdaaGreatDoorZFmtI
namespace Go.Proofs.YtdnpdfokdibmdaaGreatDoor
open Go.RowKit

set_option maxHeartbeats 1000000 in
set_option maxRecDepth 100000 in
theorem rowF_c {S : Nat → Prop} (a : Option Addr) (n cp C R i : Nat) (m : List Int) (w : World) (h : RdI w S a n cp m) (hl : m.length = R * C) (hi : i < R) (hR : R ≤ 24) (hC : C ≤ 24) :
    Calls Tryz.prog 34 #[.agg #[.int .i64 R, .int .i64 C, .slice a n cp], .int .i64 i] w fun e w' => ∃ a1 c1, e = .returned (.slice a1 C c1) ∧ RdI w' S a1 C c1 ((m.drop (i * C)).take C) ∧ Grow w w' := by
  have hnl := h.len
  have hle := h.row.le
  have hri : i * C + C ≤ m.length := by
    have : (i + 1) * C ≤ R * C := Nat.mul_le_mul_right _ hi
    rw [Nat.add_mul] at this; omega
  have u1 := mul_wrap (i := i) (c := C) (by omega) (by omega)
  have u3 : IntKind.i64.wrap (((i : Int) + 1) * C) = ((i : Int) + 1) * C := by
    have := mul_wrap (i := i + 1) (c := C) (by omega) (by omega)
    simpa using this
  have r := T_ints.atLH (a := a) (n := n) (cap := cp) (l := i * C) (k := i * C + C) (i := (i : Int) * C) (j := ((i : Int) + 1) * C) (by simp) (by rw [Int.add_mul]; simp) (by omega) (by omega)
  have rs := h.sub (l := i * C) (k := i * C + C) (by omega) (by omega)
  rw [show i * C + C - i * C = C by omega] at r rs
  have Hl := Lib.hid hl; have Hnl := Lib.hid hnl; clear hl hnl hri
  have hG := (Grow.refl w).alloc #[.int .i64 (R : Int), .int .i64 (C : Int), .slice a n cp] 26
  go_enter Tryz.func34, Tryz.ntmps34
  go_wp2
  go_ret
  exact ⟨_, _, rfl, rs.grow hG, hG⟩

theorem body_end {C R i : Nat} {cells : List Int} (hl : cells.length = R * C) (h0 : C = 0 → i = 0) (hi : i = R ∨ C = 0) : bodyM C cells i = cellsT C 0 cells := by
  rcases Nat.eq_zero_or_pos C with e | e
  · subst e
    obtain rfl : cells = [] := by simpa using hl
    rw [h0 rfl]; simp [bodyM, rowsL, cellsT, Lib.join_nil]
  · obtain rfl : i = R := by omega
    have := cellsT_rows e (cells := cells) i (by omega)
    rw [← hl, List.take_length] at this
    exact this.symm

set_option maxHeartbeats 8000000 in
set_option maxRecDepth 100000 in
theorem iFormatMatrix_c {S : Nat → Prop} {v : Value} {m : Mat} {w : World} (h : VM w S v m) (hb : bdM m ≤ 2097152) (ht : Tab w) :
    Calls Tryz.prog 14 #[v] w fun e w' => e = .returned (.string (bstr (fmtM m))) ∧ Grow w w' := by
  have hVM := h
  obtain ⟨a, n, c, rfl, h, hr, hc⟩ := h
  have hl := h.len
  have hG1 := (Grow.refl w).alloc #[.int .i64 m.rows, .int .i64 m.cols, .slice a n c] 26
  have bM := Blk.new w #[.int .i64 m.rows, .int .i64 m.cols, .slice a n c] 26
  obtain ⟨⟨m0, m1, m2⟩, -⟩ := bM.three
  have Ht := Lib.hid ht; clear ht
  cases hok : isMatB m with
  | false =>
    have Hz := Lib.hid (fmtM_no hok)
    go_enter Tryz.func14, Tryz.ntmps14
    go_wp2_with fail
    refine (isMatrix_c (hVM.grow hG1) hb).mono ?_
    rw [hok]
    rintro e w2 ⟨rfl, hG2⟩
    clear hok
    go_wp2
    go_ret
    exact ⟨by rw [Hz.out]; rfl, hG1.trans hG2⟩
  | true =>
    obtain ⟨R, C, hR, hC, hR24, hC24, hlen, hnum⟩ := isMatB_shape hok
    obtain ⟨r, k, cells⟩ := m
    simp only at hR hC hl hlen hnum
    subst hR; subst hC
    have hn : n ≤ 576 := by have : R * C ≤ 24 * 24 := Nat.mul_le_mul hR24 hC24; omega
    have Hfm := Lib.hid (fmtM_head hok)
    have hhl := headM_len hR24 hC24
    have Hhead := Lib.hid (show bstr (Lib.itoa R) ++ ⟨#[120]⟩ ++ bstr (Lib.itoa C) ++ ⟨#[91]⟩ = bstr (headM R C) by
      show bstr _ ++ bstr [120] ++ bstr _ ++ bstr [91] = _
      rw [bstr_append, bstr_append, bstr_append]; simp [headM])
    have a10 := itoa_len10 (n := (R : Int)) (by omega) (by omega)
    have b10 := itoa_len10 (n := (C : Int)) (by omega) (by omega)
    have Hln := Lib.hid hlen
    have Hnum := Lib.hid hnum
    have Hok := Lib.hid hok
    have Hl := Lib.hid hl
    clear hlen hnum hl
    go_enter Tryz.func14, Tryz.ntmps14
    go_wp2_with fail
    refine (isMatrix_c (hVM.grow hG1) hb).mono ?_
    rw [hok]
    rintro e w2 ⟨rfl, hG2⟩
    have bM2 := bM.grow hG2
    have hG12 := hG1.trans hG2
    clear hok m0 m1 m2
    go_wp2
    go_loopw [3, 4] (fun ov iv wr => Grow w wr ∧ ∃ (i : Nat) (a' : Option Addr) (c' : Nat), i ≤ R ∧ (C = 0 → i = 0) ∧ iv = .int .i64 i ∧ ov = .slice a' i c' ∧ Own wr 9 1 a' i c' (strs (((rowsL C cells i).map fmtL).map bstr)) ∧ (∀ g, blk a' = some g → w.heap.size < g) ∧ Blk wr w.heap.size #[.int .i64 R, .int .i64 C, .slice a n c] 26) (fun _ iv _ => R - (intOf iv).toNat)
    case atStart => exact ⟨hG12.alloc _ _, 0, _, 0, Nat.zero_le _, fun _ => rfl, rfl, rfl, Own.fresh (by unfold maxLen; omega) rfl, fun g hg => by have := bM2.lt; simp at hg; omega, bM2.alloc _⟩
    case round =>
      clear bM2
      obtain ⟨hG, i, a', c', hi, hz, rfl, rfl, hO, hlo, bMr⟩ := hrel
      obtain ⟨⟨m0, m1, m2⟩, -⟩ := bMr.three
      have hltM := bMr.lt
      have Hz := Lib.hid hz; clear hz
      by_cases hgo : i < R ∧ 0 < C
      · obtain ⟨hlt, hC0⟩ := hgo
        go_wp2_with fail
        refine (rowF_c a n c C R i cells _ (h.grow hG) Hln.out hlt hR24 hC24).mono ?_
        rintro e w3 ⟨sa, sc, rfl, rr, hG3⟩
        go_wp2_with fail
        refine (iFormatInts_c sa C sc _ _ rr (by omega) (Ht.out.grow (hG.trans hG3))).mono ?_
        rintro e w4 ⟨rfl, hG4⟩
        have hG34 := hG3.trans hG4
        obtain ⟨F, hF⟩ : ∃ F, F = fmtL ((cells.drop (i * C)).take C) := ⟨_, rfl⟩
        rw [← hF]
        have HF := Lib.hid hF; clear hF
        have hO4 := (hO.grow hG34).grow ((Grow.refl w4).alloc #[.string (bstr F)] 9)
        have bM4 := bMr.grow hG34
        clear m0 m1 m2
        go_wp2_with (at_builtin; refine wpList_app rfl (.tmp 20) (.tmp 25) _ rfl T_strs rfl hO4 rfl (Row.built (S := fun _ => True) 1 (by unfold maxLen; omega) rfl trivial) (by simp [Value.oneCell']) (by omega) (by unfold maxLen; omega) ?_; intro a3 c3 w5 hA3)
        have hsw := hG.size
        have hsw2 := hG34.size
        have hG5 : Grow w w5 := hA3.grow ((hG.trans hG34).alloc _ _) fun g hg => Nat.le_of_lt (hlo g hg)
        have hl3 := hA3.lo (B := w.heap.size + 1) (by simp; omega) hlo
        have bM5 := (bM4.alloc (.cells #[.string (bstr F)] 9)).keep hA3.keep (fun e => by have := hlo _ e; omega)
        have hO3 := hA3.own
        clear hA3 hO hO4
        go_wp2
        go_roundw
        case rel => exact ⟨hG5, i + 1, a3, c3, by omega, fun e => by omega, by go_num, rfl, by rw [rowsL, List.map_append, List.map_append]; simpa [strs, HF.out] using hO3, hl3, bM5⟩
        case measure => simp [intOf]; omega
      · have hend := body_end (i := i) Hln.out Hz.out (by omega)
        have Hend := Lib.hid hend; clear hend
        have hBl : (bodyM C cells i).length ≤ 6400 := by
          rw [Hend.out]
          have h1 := cellsT_len (C := C) (l := cells) (k := 0) Hnum.out
          have := Hl.out; omega
        by_cases hiR : i < R
        · have q0 : decide (0 < C) = false := by simp; omega
          go_wp2
          refine wp_region_segs (S := Grow wr) [([0, 1, 4, 5, 9], some 2), ([3], some 6), ([7, 8], some 10), ([11, 12, 13], none)] P_mixed (by kernel_rfl) (fun _ _ _ _ _ h => h) (Grow.refl _).drew ?_
          show wpQuiet _ _ _ _ [_, _, _, _, _] _
          repeat (first | go_big_quiet_skip | (go_big_quiet_want; first | (apply quiet_load CT_int; rfl; rfl; exact (fun w' hG => hG.cell m0); go_big_quiet_on; simp only [Act.put, List.setIfInBounds_toArray, List.set_cons_succ, List.set_cons_zero]) | (apply quiet_load CT_int; rfl; rfl; exact (fun w' hG => hG.cell m1); go_big_quiet_on; simp only [Act.put, List.setIfInBounds_toArray, List.set_cons_succ, List.set_cons_zero]) | (go_big_quiet_op; first | go_big_quiet_on | (refine ⟨_, (fun _ _ => rfl), ?_⟩; go_big_quiet_on))))
          refine wpQuiet_nil ?_
          refine seg_go rfl (fun K hK => ?_)
          go_wp2_with fail
          refine (iFormatInt_c R _ (by unfold I64; omega) (Ht.out.grow hG.drew)).mono ?_
          rintro e w3 ⟨rfl, hG3⟩
          have hGa := (Grow.refl wr).drew.trans hG3
          go_wp2_with fail
          refine hK _ _ (hGa) ?_
          clear hK K
          show wpQuiet _ _ _ _ [_] _
          try (conv => arg 6; simp only [Act.put, List.setIfInBounds_toArray, List.set_cons_succ, List.set_cons_zero])
          repeat (first | go_big_quiet_skip | (go_big_quiet_want; first | (apply quiet_load CT_int; rfl; rfl; exact (fun w' hG => hG.cell m0); go_big_quiet_on; simp only [Act.put, List.setIfInBounds_toArray, List.set_cons_succ, List.set_cons_zero]) | (apply quiet_load CT_int; rfl; rfl; exact (fun w' hG => hG.cell m1); go_big_quiet_on; simp only [Act.put, List.setIfInBounds_toArray, List.set_cons_succ, List.set_cons_zero]) | (go_big_quiet_op; first | go_big_quiet_on | (refine ⟨_, (fun _ _ => rfl), ?_⟩; go_big_quiet_on))))
          refine wpQuiet_nil ?_
          refine seg_go rfl (fun K hK => ?_)
          go_wp2_with fail
          refine (iFormatInt_c C _ (by unfold I64; omega) (Ht.out.grow (hG.trans hGa))).mono ?_
          rintro e w4 ⟨rfl, hG4⟩
          have hGb := hGa.trans hG4
          go_wp2_with fail
          refine hK _ _ (hGb) ?_
          clear hK K
          show wpQuiet _ _ _ _ [_, _] _
          try (conv => arg 6; simp only [Act.put, List.setIfInBounds_toArray, List.set_cons_succ, List.set_cons_zero])
          repeat (first | go_big_quiet_skip | (go_big_quiet_want; first | (apply quiet_load CT_int; rfl; rfl; exact (fun w' hG => hG.cell m0); go_big_quiet_on; simp only [Act.put, List.setIfInBounds_toArray, List.set_cons_succ, List.set_cons_zero]) | (apply quiet_load CT_int; rfl; rfl; exact (fun w' hG => hG.cell m1); go_big_quiet_on; simp only [Act.put, List.setIfInBounds_toArray, List.set_cons_succ, List.set_cons_zero]) | (go_big_quiet_op; first | go_big_quiet_on | (refine ⟨_, (fun _ _ => rfl), ?_⟩; go_big_quiet_on))))
          refine wpQuiet_nil ?_
          rw [Hhead.out]
          have hj : Lib.join ((((rowsL C cells i).map fmtL).map bstr).map (·.data.toList)) (bstr [59]).data.toList = bodyM C cells i := by rw [data_bstr]; rfl
          have hJ := join_c a' i c' _ (bstr [59]) w4 ((hO.grow hGb).rdS (S := fun _ => True) fun _ _ => trivial) (by omega) (by rw [hj]; omega)
          rw [hj] at hJ
          obtain ⟨B, hB⟩ : ∃ B, B = bodyM C cells i := ⟨_, rfl⟩
          rw [← hB] at hJ hBl Hend
          have HJ := Lib.hid hJ
          clear hj hJ hO hB
          refine seg_go rfl (fun K hK => ?_)
          go_wp2_with fail
          refine HJ.out.mono ?_
          rintro e w5 ⟨rfl, hG5⟩
          have hGc := hGb.trans hG5
          obtain ⟨H, hH⟩ : ∃ H, H = headM R C := ⟨_, rfl⟩
          rw [← hH] at hhl Hfm ⊢
          clear hH
          go_wp2_with fail
          refine hK _ _ (hGc) ?_
          clear hK K
          show wpQuiet _ _ _ _ [_, _, _] _
          try (conv => arg 6; simp only [Act.put, List.setIfInBounds_toArray, List.set_cons_succ, List.set_cons_zero])
          repeat (first | go_big_quiet_skip | (go_big_quiet_want; first | (apply quiet_load CT_int; rfl; rfl; exact (fun w' hG => hG.cell m0); go_big_quiet_on; simp only [Act.put, List.setIfInBounds_toArray, List.set_cons_succ, List.set_cons_zero]) | (apply quiet_load CT_int; rfl; rfl; exact (fun w' hG => hG.cell m1); go_big_quiet_on; simp only [Act.put, List.setIfInBounds_toArray, List.set_cons_succ, List.set_cons_zero]) | (go_big_quiet_op; first | go_big_quiet_on | (refine ⟨_, (fun _ _ => rfl), ?_⟩; go_big_quiet_on))))
          refine wpQuiet_nil ?_
          refine wpSegs_nil ?_
          go_wp2
          go_ret
          refine ⟨?_, hG.trans hGc⟩
          rw [Hfm.out, ← Hend.out]
          show Ending.returned (Value.string (bstr H ++ bstr B ++ bstr [93])) = _
          rw [bstr_append, bstr_append]
        · skip
          go_wp2
          refine wp_region_segs (S := Grow wr) [([0, 1, 4, 5, 9], some 2), ([3], some 6), ([7, 8], some 10), ([11, 12, 13], none)] P_mixed (by kernel_rfl) (fun _ _ _ _ _ h => h) (Grow.refl _).drew ?_
          show wpQuiet _ _ _ _ [_, _, _, _, _] _
          repeat (first | go_big_quiet_skip | (go_big_quiet_want; first | (apply quiet_load CT_int; rfl; rfl; exact (fun w' hG => hG.cell m0); go_big_quiet_on; simp only [Act.put, List.setIfInBounds_toArray, List.set_cons_succ, List.set_cons_zero]) | (apply quiet_load CT_int; rfl; rfl; exact (fun w' hG => hG.cell m1); go_big_quiet_on; simp only [Act.put, List.setIfInBounds_toArray, List.set_cons_succ, List.set_cons_zero]) | (go_big_quiet_op; first | go_big_quiet_on | (refine ⟨_, (fun _ _ => rfl), ?_⟩; go_big_quiet_on))))
          refine wpQuiet_nil ?_
          refine seg_go rfl (fun K hK => ?_)
          go_wp2_with fail
          refine (iFormatInt_c R _ (by unfold I64; omega) (Ht.out.grow hG.drew)).mono ?_
          rintro e w3 ⟨rfl, hG3⟩
          have hGa := (Grow.refl wr).drew.trans hG3
          go_wp2_with fail
          refine hK _ _ (hGa) ?_
          clear hK K
          show wpQuiet _ _ _ _ [_] _
          try (conv => arg 6; simp only [Act.put, List.setIfInBounds_toArray, List.set_cons_succ, List.set_cons_zero])
          repeat (first | go_big_quiet_skip | (go_big_quiet_want; first | (apply quiet_load CT_int; rfl; rfl; exact (fun w' hG => hG.cell m0); go_big_quiet_on; simp only [Act.put, List.setIfInBounds_toArray, List.set_cons_succ, List.set_cons_zero]) | (apply quiet_load CT_int; rfl; rfl; exact (fun w' hG => hG.cell m1); go_big_quiet_on; simp only [Act.put, List.setIfInBounds_toArray, List.set_cons_succ, List.set_cons_zero]) | (go_big_quiet_op; first | go_big_quiet_on | (refine ⟨_, (fun _ _ => rfl), ?_⟩; go_big_quiet_on))))
          refine wpQuiet_nil ?_
          refine seg_go rfl (fun K hK => ?_)
          go_wp2_with fail
          refine (iFormatInt_c C _ (by unfold I64; omega) (Ht.out.grow (hG.trans hGa))).mono ?_
          rintro e w4 ⟨rfl, hG4⟩
          have hGb := hGa.trans hG4
          go_wp2_with fail
          refine hK _ _ (hGb) ?_
          clear hK K
          show wpQuiet _ _ _ _ [_, _] _
          try (conv => arg 6; simp only [Act.put, List.setIfInBounds_toArray, List.set_cons_succ, List.set_cons_zero])
          repeat (first | go_big_quiet_skip | (go_big_quiet_want; first | (apply quiet_load CT_int; rfl; rfl; exact (fun w' hG => hG.cell m0); go_big_quiet_on; simp only [Act.put, List.setIfInBounds_toArray, List.set_cons_succ, List.set_cons_zero]) | (apply quiet_load CT_int; rfl; rfl; exact (fun w' hG => hG.cell m1); go_big_quiet_on; simp only [Act.put, List.setIfInBounds_toArray, List.set_cons_succ, List.set_cons_zero]) | (go_big_quiet_op; first | go_big_quiet_on | (refine ⟨_, (fun _ _ => rfl), ?_⟩; go_big_quiet_on))))
          refine wpQuiet_nil ?_
          rw [Hhead.out]
          have hj : Lib.join ((((rowsL C cells i).map fmtL).map bstr).map (·.data.toList)) (bstr [59]).data.toList = bodyM C cells i := by rw [data_bstr]; rfl
          have hJ := join_c a' i c' _ (bstr [59]) w4 ((hO.grow hGb).rdS (S := fun _ => True) fun _ _ => trivial) (by omega) (by rw [hj]; omega)
          rw [hj] at hJ
          obtain ⟨B, hB⟩ : ∃ B, B = bodyM C cells i := ⟨_, rfl⟩
          rw [← hB] at hJ hBl Hend
          have HJ := Lib.hid hJ
          clear hj hJ hO hB
          refine seg_go rfl (fun K hK => ?_)
          go_wp2_with fail
          refine HJ.out.mono ?_
          rintro e w5 ⟨rfl, hG5⟩
          have hGc := hGb.trans hG5
          obtain ⟨H, hH⟩ : ∃ H, H = headM R C := ⟨_, rfl⟩
          rw [← hH] at hhl Hfm ⊢
          clear hH
          go_wp2_with fail
          refine hK _ _ (hGc) ?_
          clear hK K
          show wpQuiet _ _ _ _ [_, _, _] _
          try (conv => arg 6; simp only [Act.put, List.setIfInBounds_toArray, List.set_cons_succ, List.set_cons_zero])
          repeat (first | go_big_quiet_skip | (go_big_quiet_want; first | (apply quiet_load CT_int; rfl; rfl; exact (fun w' hG => hG.cell m0); go_big_quiet_on; simp only [Act.put, List.setIfInBounds_toArray, List.set_cons_succ, List.set_cons_zero]) | (apply quiet_load CT_int; rfl; rfl; exact (fun w' hG => hG.cell m1); go_big_quiet_on; simp only [Act.put, List.setIfInBounds_toArray, List.set_cons_succ, List.set_cons_zero]) | (go_big_quiet_op; first | go_big_quiet_on | (refine ⟨_, (fun _ _ => rfl), ?_⟩; go_big_quiet_on))))
          refine wpQuiet_nil ?_
          refine wpSegs_nil ?_
          go_wp2
          go_ret
          refine ⟨?_, hG.trans hGc⟩
          rw [Hfm.out, ← Hend.out]
          show Ending.returned (Value.string (bstr H ++ bstr B ++ bstr [93])) = _
          rw [bstr_append, bstr_append]
end Go.Proofs.YtdnpdfokdibmdaaGreatDoor
