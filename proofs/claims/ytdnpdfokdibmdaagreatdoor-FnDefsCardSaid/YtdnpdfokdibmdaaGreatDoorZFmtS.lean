/-
  Matrices as text: the reference's FormatMatrix.
-/
import Derived.Test.YtdnpdfokdibmdaaGreatDoorZFmtN
import Derived.Test.YtdnpdfokdibmdaaGreatDoorZInts
import Derived.Test.YtdnpdfokdibmdaaGreatDoorZBase
namespace Go.Proofs.YtdnpdfokdibmdaaGreatDoor
open Go.RowKit

def headM (R C : Nat) : List UInt8 := Lib.itoa R ++ (120 :: (Lib.itoa C ++ [91]))
theorem fmtM_head {R C : Nat} {cells : List Int} (h : isMatB ⟨R, C, cells⟩ = true) : fmtM ⟨R, C, cells⟩ = (headM R C ++ cellsT C 0 cells) ++ [93] := by
  rw [fmtM_yes h]; simp [headM]
theorem headM_len {R C : Nat} (hR : R ≤ 24) (hC : C ≤ 24) : (headM R C).length ≤ 22 := by
  have a := itoa_len10 (n := (R : Int)) (by omega) (by omega)
  have b := itoa_len10 (n := (C : Int)) (by omega) (by omega)
  unfold headM
  simp only [List.length_append, List.length_cons, List.length_nil]; omega
theorem cellsT_take {C k : Nat} {l : List Int} {x : Int} (h : l[k]? = some x) : cellsT C 0 (l.take (k + 1)) = cellsT C 0 (l.take k) ++ ((if 0 < k ∧ k % C = 0 then [59] else if 0 < k then [32] else []) ++ Lib.itoa x) := by
  have hk : k < l.length := (List.getElem?_eq_some_iff.1 h).1
  rw [take_succ h, cellsT_append]
  simp only [cellsT, List.append_nil, Nat.zero_add]
  rw [show (l.take k).length = k by simp; omega]

set_option maxHeartbeats 4000000 in
set_option maxRecDepth 100000 in
theorem sFormatMatrix_c {S : Nat → Prop} {v : Value} {m : Mat} {w : World} (h : VM w S v m) (hb : bdM m ≤ 2097152) :
    Calls Tryz.prog 44 #[v] w fun e w' => e = .returned (.string (bstr (fmtM m))) ∧ Grow w w' := by
  have hVM := h
  obtain ⟨a, n, c, rfl, h, hr, hc⟩ := h
  have hl := h.len
  have hG1 := (Grow.refl w).alloc #[.int .i64 m.rows, .int .i64 m.cols, .slice a n c] 26
  have bM := Blk.new w #[.int .i64 m.rows, .int .i64 m.cols, .slice a n c] 26
  obtain ⟨⟨m0, m1, m2⟩, -⟩ := bM.three
  cases hok : isMatB m with
  | false =>
    have Hz := Lib.hid (fmtM_no hok)
    go_enter Tryz.func44, Tryz.ntmps44
    go_wp2_with fail
    refine (sIsMatrix_c (hVM.grow hG1) hb).mono ?_
    rw [hok]
    rintro e w2 ⟨rfl, hG2⟩
    clear hok
    go_wp2
    go_ret
    exact ⟨by rw [Hz.out]; rfl, hG1.trans hG2⟩
  | true =>
    obtain ⟨R, C, hR, hC, hR24, hC24, hlen, hnum⟩ := isMatB_shape hok
    obtain ⟨r, k, cells⟩ := m
    simp only at hR hC hl hlen hnum
    subst hR; subst hC
    have hn : n ≤ 576 := by have : R * C ≤ 24 * 24 := Nat.mul_le_mul hR24 hC24; omega
    have Hfm := Lib.hid (fmtM_head hok)
    have hhl := headM_len hR24 hC24
    have Hhead := Lib.hid (show bstr (Lib.itoa R) ++ ⟨#[120]⟩ ++ bstr (Lib.itoa C) ++ ⟨#[91]⟩ = bstr (headM R C) by
      show bstr _ ++ bstr [120] ++ bstr _ ++ bstr [91] = _
      rw [bstr_append, bstr_append, bstr_append]; simp [headM])
    have a10 := itoa_len10 (n := (R : Int)) (by omega) (by omega)
    have b10 := itoa_len10 (n := (C : Int)) (by omega) (by omega)
    have Hln := Lib.hid hlen
    have Hnum := Lib.hid hnum
    have Hok := Lib.hid hok
    have HC := Lib.hid (show 0 < n → 0 < C by
      intro h0
      rcases Nat.eq_zero_or_pos C with e | e
      · rw [e, Nat.mul_zero] at hlen; omega
      · exact e)
    clear hlen hnum
    go_enter Tryz.func44, Tryz.ntmps44
    go_wp2_with fail
    refine (sIsMatrix_c (hVM.grow hG1) hb).mono ?_
    rw [hok]
    rintro e w2 ⟨rfl, hG2⟩
    have bM2 := bM.grow hG2
    have hG12 := hG1.trans hG2
    clear hok m0 m1 m2
    obtain ⟨⟨m0, m1, m2⟩, -⟩ := bM2.three
    go_wp2
    refine wp_region_segs (S := Grow w2) [([0, 1, 4, 5], some 2), ([3], some 6), ([7, 8, 9], none)] P_mixed (by kernel_rfl) (fun _ _ _ _ _ h => h) (Grow.refl _).drew ?_
    show wpQuiet _ _ _ _ [_, _, _, _] _
    repeat (first | go_big_quiet_skip | (go_big_quiet_want; first | (apply quiet_load CT_int; rfl; rfl; exact (fun w' hG => hG.cell m0); go_big_quiet_on; simp only [Act.put, List.setIfInBounds_toArray, List.set_cons_succ, List.set_cons_zero]) | (apply quiet_load CT_int; rfl; rfl; exact (fun w' hG => hG.cell m1); go_big_quiet_on; simp only [Act.put, List.setIfInBounds_toArray, List.set_cons_succ, List.set_cons_zero]) | (go_big_quiet_op; first | go_big_quiet_on | (refine ⟨_, (fun _ _ => rfl), ?_⟩; go_big_quiet_on))))
    refine wpQuiet_nil ?_
    refine seg_go rfl (fun K hK => ?_)
    go_wp2_with fail
    refine (sFormatInt_c R _ (by unfold I64; omega)).mono ?_
    rintro e _ ⟨rfl, rfl⟩
    go_wp2_with fail
    refine hK _ _ ((Grow.refl _).drew) ?_
    clear hK K
    show wpQuiet _ _ _ _ [_] _
    try (conv => arg 6; simp only [Act.put, List.setIfInBounds_toArray, List.set_cons_succ, List.set_cons_zero])
    repeat (first | go_big_quiet_skip | (go_big_quiet_want; first | (apply quiet_load CT_int; rfl; rfl; exact (fun w' hG => hG.cell m0); go_big_quiet_on; simp only [Act.put, List.setIfInBounds_toArray, List.set_cons_succ, List.set_cons_zero]) | (apply quiet_load CT_int; rfl; rfl; exact (fun w' hG => hG.cell m1); go_big_quiet_on; simp only [Act.put, List.setIfInBounds_toArray, List.set_cons_succ, List.set_cons_zero]) | (go_big_quiet_op; first | go_big_quiet_on | (refine ⟨_, (fun _ _ => rfl), ?_⟩; go_big_quiet_on))))
    refine wpQuiet_nil ?_
    refine seg_go rfl (fun K hK => ?_)
    go_wp2_with fail
    refine (sFormatInt_c C _ (by unfold I64; omega)).mono ?_
    rintro e _ ⟨rfl, rfl⟩
    go_wp2_with fail
    refine hK _ _ ((Grow.refl _).drew) ?_
    clear hK K
    show wpQuiet _ _ _ _ [_, _, _] _
    try (conv => arg 6; simp only [Act.put, List.setIfInBounds_toArray, List.set_cons_succ, List.set_cons_zero])
    repeat (first | go_big_quiet_skip | (go_big_quiet_want; first | (apply quiet_load CT_int; rfl; rfl; exact (fun w' hG => hG.cell m0); go_big_quiet_on; simp only [Act.put, List.setIfInBounds_toArray, List.set_cons_succ, List.set_cons_zero]) | (apply quiet_load CT_int; rfl; rfl; exact (fun w' hG => hG.cell m1); go_big_quiet_on; simp only [Act.put, List.setIfInBounds_toArray, List.set_cons_succ, List.set_cons_zero]) | (go_big_quiet_op; first | go_big_quiet_on | (refine ⟨_, (fun _ _ => rfl), ?_⟩; go_big_quiet_on))))
    refine wpQuiet_nil ?_
    refine wpSegs_nil ?_
    rw [Hhead.out]
    have hG3 : Grow w w2.drew := hG12.drew
    have bM3 := bM2.grow (Grow.refl w2).drew
    generalize hw3 : w2.drew = w3 at *
    clear hw3 m0 m1 m2
    obtain ⟨H, hH⟩ : ∃ H, H = headM R C := ⟨_, rfl⟩
    rw [← hH] at hhl Hfm ⊢
    clear hH Hhead
    have h3 := h.grow hG3
    go_wp2
    go_loopw [3, 4] (fun sv iv wr => Grow w wr ∧ ∃ k : Nat, k ≤ n ∧ iv = .int .i64 k ∧ sv = .string (bstr (H ++ cellsT C 0 (cells.take k))) ∧ Blk wr w.heap.size #[.int .i64 R, .int .i64 C, .slice a n c] 26) (fun _ iv _ => n - (intOf iv).toNat)
    case atStart => exact ⟨hG3, 0, Nat.zero_le _, rfl, by simp [cellsT], bM3⟩
    case round =>
      clear bM3 h3
      obtain ⟨hGr, k, hk, rfl, rfl, bMr⟩ := hrel
      obtain ⟨⟨m0, m1, m2⟩, -⟩ := bMr.three
      have hrd := h.grow hGr
      obtain ⟨T, hT⟩ : ∃ T, T = H ++ cellsT C 0 (cells.take k) := ⟨_, rfl⟩
      rw [← hT]
      have hTl : T.length ≤ 6400 := by
        have h1 := cellsT_len (C := C) (l := cells.take k) (k := 0) fun x hx => Hnum.out x (List.mem_of_mem_take hx)
        have h2 : (cells.take k).length ≤ 576 := by simp; omega
        rw [hT, List.length_append]; omega
      have HT := Lib.hid hT
      clear hT
      by_cases hlt : k < n
      · obtain ⟨b, off, x, rfl, hx, hrx, -, hbl, hcx⟩ := hrd.at hlt
        have hx10 := itoa_len10 (Hnum.out x (List.mem_of_getElem? hx)).1 (Hnum.out x (List.mem_of_getElem? hx)).2
        have Hx := Lib.hid hx
        have hC0 := HC.out (by omega)
        have Htk := Lib.hid (cellsT_take (C := C) hx)
        clear hx
        by_cases hk0 : k = 0
        · subst hk0
          rw [Nat.add_zero] at hcx
          go_wp2_with fail
          refine (sFormatInt_c x _ hrx).mono ?_
          rintro e _ ⟨rfl, rfl⟩
          go_wp2
          go_roundw
          case rel => exact ⟨hGr, 1, by omega, by go_num, by rw [bstr_append, HT.out, Htk.out]; simp, bMr⟩
          case measure => simp [intOf]; omega
        · by_cases hkc : k % C = 0
          · have q1 : (((k : Int) % (C : Int)) == 0) = true := by simp; omega
            go_wp2_with fail
            refine (sFormatInt_c x _ hrx).mono ?_
            rintro e _ ⟨rfl, rfl⟩
            go_wp2
            go_roundw
            case rel => exact ⟨hGr, k + 1, by omega, by go_num, by
              show Value.string (bstr T ++ bstr [59] ++ bstr (Lib.itoa x)) = _
              rw [bstr_append, bstr_append, HT.out, Htk.out, if_pos ⟨by omega, hkc⟩]; simp, bMr⟩
            case measure => simp [intOf]; omega
          · have q1 : (((k : Int) % (C : Int)) == 0) = false := by simp; omega
            go_wp2_with fail
            refine (sFormatInt_c x _ hrx).mono ?_
            rintro e _ ⟨rfl, rfl⟩
            go_wp2
            go_roundw
            case rel => exact ⟨hGr, k + 1, by omega, by go_num, by
              show Value.string (bstr T ++ bstr [32] ++ bstr (Lib.itoa x)) = _
              rw [bstr_append, bstr_append, HT.out, Htk.out, if_neg (fun e => hkc e.2), if_pos (by omega)]; simp, bMr⟩
            case measure => simp [intOf]; omega
      · have hkn : k = n := by omega
        subst hkn
        go_wp2
        go_ret
        refine ⟨?_, hGr⟩
        rw [Hfm.out]
        show Ending.returned (Value.string (bstr T ++ bstr [93])) = _
        rw [bstr_append, HT.out, take_all hl]
end Go.Proofs.YtdnpdfokdibmdaaGreatDoor
