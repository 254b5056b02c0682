/-
  The reference's cells and row operations.
-/
import Derived.Test.YthlncohllbmapaaHermG
import Derived.Test.YthlncohllbmapaaPar
namespace Go.Proofs.Ythlncohllbmapaa
open Go.RowKit

theorem ints_get {xs : List Int} {j : Nat} {x : Int} (hj : j < xs.length) (hx : xs.getD j 0 = x) : (ints xs)[j]? = some (.int .i64 x) := by
  rw [List.getElem?_map, List.getElem?_eq_getElem hj]
  simp [List.getD, List.getElem?_eq_getElem hj] at hx
  rw [← hx]; rfl
theorem Keep.on {S T : Nat → Prop} {a b c : World} (h : Keep S a b) (k : Keep T b c) (hT : ∀ i, i < a.heap.size → S i → T i) : Keep S a c :=
  ⟨k.os.trans h.os, k.tape.trans h.tape, k.output.trans h.output, Nat.le_trans h.size k.size, fun x hx => (k.frozen x (Nat.lt_of_lt_of_le hx h.size)).trans (h.frozen x hx),
    fun i hi hs => (k.block i (Nat.lt_of_lt_of_le hi h.size) (hT i hi hs)).trans (h.block i hi hs)⟩
set_option maxHeartbeats 1000000 in
set_option maxRecDepth 100000 in
theorem l12Cell_c {S : Nat → Prop} (a : Option Addr) (n cp C i j : Nat) (R : Int) (cells : List Int) (w : World) (h : RdI w S a n cp cells) (hlt : i * C + j < n) (hi : i ≤ 1048576) (hC : C ≤ 1048576) (hj : j ≤ 1048576) :
    Calls Try.prog 86 #[.agg #[.int .i64 R, .int .i64 C, .slice a n cp], .int .i64 i, .int .i64 j] w fun e w' => e = .returned (.int .i64 (cell cells C i j)) ∧ Grow w w' := by
  have hl := h.len
  have hG : Grow w (w.alloc (.cells #[.int .i64 R, .int .i64 C, .slice a n cp] 27)) := (Grow.refl w).alloc _ _
  obtain ⟨b, off, y, rfl, hy, hr, _, hb, hc⟩ := (h.grow hG).at hlt
  have hx : cell cells C i j = y := getD_at hy
  rw [hx]
  clear hy hx
  have u1 := mul_wrap (i := i) (c := C) hi hC
  have u2 := idx_wrap (i := i) (c := C) (j := j) hi hC hj rfl
  obtain ⟨x, hx⟩ : ∃ x, x = i * C + j := ⟨_, rfl⟩
  rw [← hx] at hc u2 hlt
  clear hx
  go_enter Try.func86, Try.ntmps86
  go_wp2
  go_ret
  exact ⟨rfl, hG⟩
set_option maxHeartbeats 4000000 in
set_option maxRecDepth 100000 in
theorem l5Add_c (a : Option Addr) (n cp C i p : Nat) (R t : Int) (m : List Int) (w : World) (h : Own w 3 1 a n cp (ints m)) (hi : i * C + C ≤ n) (hp : p * C + C ≤ n) (hip : i ≠ p) (hm : NumBL m) (ht : NumS t) (hn : n ≤ 1048576) (hi2 : i ≤ 1048576) (hp2 : p ≤ 1048576) (hC2 : C ≤ 1048576) :
    Calls Try.prog 136 #[.agg #[.int .i64 R, .int .i64 C, .slice a n cp], .agg #[.int .i64 2, .int .i64 i, .int .i64 p, .int .i64 t]] w fun e w' => e = .returned (.tuple #[]) ∧ Own w' 3 1 a n cp (ints (addRS m C i p t)) ∧ Keep (fun q => blk a ≠ some q) w w' := by
  obtain ⟨kd, hkd⟩ : ∃ kd : Int, kd = 2 := ⟨_, rfl⟩
  rw [← hkd]
  have hl : m.length = n := by simpa using h.len
  have hG2 : Grow w ((w.alloc (.cells #[.int .i64 R, .int .i64 (C : Int), .slice a n cp] 27)).alloc (.cells #[.int .i64 kd, .int .i64 (i : Int), .int .i64 (p : Int), .int .i64 t] 94)) := ((Grow.refl w).alloc _ _).alloc _ _
  obtain ⟨w2, hw2⟩ : ∃ w2, w2 = (w.alloc (.cells #[.int .i64 R, .int .i64 (C : Int), .slice a n cp] 27)).alloc (.cells #[.int .i64 kd, .int .i64 (i : Int), .int .i64 (p : Int), .int .i64 t] 94) := ⟨_, rfl⟩
  have bM : Blk w2 w.heap.size #[.int .i64 R, .int .i64 (C : Int), .slice a n cp] 27 := by rw [hw2]; exact (Blk.new w _ _).alloc _
  have bX : Blk w2 (w.heap.size + 1) #[.int .i64 kd, .int .i64 (i : Int), .int .i64 (p : Int), .int .i64 t] 94 := by rw [hw2]; exact Blk.newAt _ _ _ (by simp)
  have hO0 : Own w2 3 1 a n cp (ints m) := by rw [hw2]; exact h.grow hG2
  rw [← hw2] at hG2
  have nM : blk a ≠ some w.heap.size := fun e => by have := h.lt e; omega
  have nX : blk a ≠ some (w.heap.size + 1) := fun e => by have := h.lt e; omega
  have Hw2 := Lib.hid hw2; clear hw2
  clear h
  subst hkd
  go_enter Try.func136, Try.ntmps136
  go_wp2
  rw [← Hw2.out]
  go_loopw [4] (fun q wr => Keep (fun q => blk a ≠ some q) w2 wr ∧ ∃ k : Nat, k ≤ C ∧ q = .int .i64 k ∧ Own wr 3 1 a n cp (ints (updR (addVS m C i p t) (i * C) k m))) (fun q _ => C - (intOf q).toNat)
  case atStart => exact ⟨Keep.refl _ _, 0, Nat.zero_le _, rfl, hO0⟩
  case round =>
    clear hO0
    obtain ⟨hK, k, hk, rfl, hO⟩ := hrel
    have bMr := bM.keep hK nM
    obtain ⟨⟨a0, a1, a2⟩, -⟩ := bMr.three
    by_cases hlt : k < C
    · have bXr := bX.keep hK nX
      have x0 := bXr.cell 0
      have x1 := bXr.cell 1
      have x2 := bXr.cell 2
      have x3 := bXr.cell 3
      simp only [List.getElem?_toArray, List.getElem?_cons_zero, List.getElem?_cons_succ] at x0 x1 x2 x3
      have hlen : (updR (addVS m C i p t) (i * C) k m).length = n := by rw [updR_len, hl]
      have hg1 : (updR (addVS m C i p t) (i * C) k m).getD (i * C + k) 0 = cell m C i k := by rw [updR_getD (by omega), if_neg (by omega)]; rfl
      have hg2 : (updR (addVS m C i p t) (i * C) k m).getD (p * C + k) 0 = cell m C p k := by
        rw [updR_getD (by omega), if_neg]; rfl
        rintro ⟨h1, h2⟩
        have := place_eq (i := i) (i' := p) (j := p * C + k - i * C) (j' := k) (C := C) (by omega) hlt (by omega)
        exact hip this.1
      obtain ⟨pb, rfl⟩ : ∃ pb, a = some ⟨pb, 0, none⟩ := by
        cases a with
        | none => have := hO.nil rfl; have := hO.le; omega
        | some q => exact ⟨q.block, by rw [← (hO.block q rfl).1]⟩
      have hc1 := hO.cell (ints_get (by omega) hg1)
      have hc2 := hO.cell (ints_get (by omega) hg2)
      have hfr := hO.free (i * C + k)
      have hpb := hO.lt (g := pb) rfl
      have hsA := hm.getD (i * C + k)
      have hsB := hm.getD (p * C + k)
      have u1 := mul_wrap (i := i) (c := C) hi2 hC2
      have u2 := idx_wrap (i := i) (c := C) (j := k) hi2 hC2 (by omega) rfl
      have u3 := mul_wrap (i := p) (c := C) hp2 hC2
      have u4 := idx_wrap (i := p) (c := C) (j := k) hp2 hC2 (by omega) rfl
      have hle := hO.le
      change NumS (cell m C i k) at hsA
      change NumS (cell m C p k) at hsB
      have Hv := Lib.hid (show addVS m C i p t k = addS (cell m C i k) (mulS (cell m C p k) t) from rfl)
      have hO9 := (hO.set (i * C + k) (.int .i64 (addVS m C i p t k))).grow (Grow.refl _).drew
      rw [← ints_set] at hO9
      clear hO hg1 hg2 hlen
      generalize cell m C i k = ca at *
      generalize cell m C p k = cb at *
      generalize hix : i * C + k = ix at *
      generalize hiy : p * C + k = iy at *
      have hlx : ix < n := by omega
      have hly : iy < n := by omega
      have Hix := Lib.hid hix
      clear hix hiy
      simp only at hc1 hc2 hfr hO9
      go_wp2
      refine wp_region_mix (S := (Keep (fun q => blk (some (⟨pb, 0, none⟩ : Addr)) ≠ some q) wr)) [0, 1, 2, 3, 4, 5, 6, 7, 8, 9, 10, 11, 12] [13, 14, 15, 16] P_mixed (by kernel_rfl) (fun _ _ _ _ _ h => h) (Keep.refl _ _).drew ?_
      show wpQuiet _ _ _ (fun a' => wpListS _ _ _ _ [_, _, _, _] a' _) [_, _, _, _, _, _, _, _, _, _, _, _, _] _
      repeat (first | go_big_quiet_skip | (go_big_quiet_want; first | (apply quiet_load CT_ints; rfl; rfl; exact (fun w' hG => hG.cell nM a2); go_big_quiet_on; simp only [Act.put, List.setIfInBounds_toArray, List.set_cons_succ, List.set_cons_zero]) | (apply quiet_load CT_int; rfl; rfl; exact (fun w' hG => hG.cell nX x1); go_big_quiet_on; simp only [Act.put, List.setIfInBounds_toArray, List.set_cons_succ, List.set_cons_zero]) | (apply quiet_load CT_int; rfl; rfl; exact (fun w' hG => hG.cell nM a1); go_big_quiet_on; simp only [Act.put, List.setIfInBounds_toArray, List.set_cons_succ, List.set_cons_zero]) | (apply quiet_load CT_int; rfl; rfl; exact (fun w' hG => hG.cell nX x3); go_big_quiet_on; simp only [Act.put, List.setIfInBounds_toArray, List.set_cons_succ, List.set_cons_zero]) | (go_big_quiet_op; first | go_big_quiet_on | (refine ⟨_, (fun _ _ => rfl), ?_⟩; go_big_quiet_on))))
      refine wpQuiet_nil ?_
      show wpListS _ _ _ _ _ _ _
      refine wpListS_step rfl (fun K hK => ?_)
      go_wp2_with fail
      refine (l1Mul_c cb t _ hsB ht).mono ?_
      rintro e _ ⟨rfl, rfl⟩
      go_wp2_with fail
      refine hK _ _ ((Keep.refl _ _).drew) ?_
      clear hK K
      refine wpListS_step rfl (fun K hK => ?_)
      go_wp2_with fail
      refine (l1Add_c ca (mulS cb t) _ hsA (mulS_s _ _)).mono ?_
      rintro e _ ⟨rfl, rfl⟩
      rw [← Hv.out]
      go_wp2_with fail
      refine hK _ _ ((Keep.refl _ _).drew) ?_
      clear hK K
      refine wpListS_step rfl (fun K hK => ?_)
      go_wp2_with fail
      refine hK _ _ ((Keep.refl _ _).drew) ?_
      clear hK K
      refine wpListS_step rfl (fun K hK => ?_)
      go_wp2_with fail
      have hKs : Keep (fun q => blk (some (⟨pb, 0, none⟩ : Addr)) ≠ some q) wr (wr.setCell ⟨pb, ix, none⟩ (.int .i64 (addVS m C i p t k))).drew := ((Keep.refl _ wr).setCell (p := ⟨pb, ix, none⟩) (fun _ e => e rfl) _).drew
      refine hK _ _ (hKs) ?_
      clear hK K
      refine wpListS_nil ?_
      go_wp2
      go_roundw
      case rel => exact ⟨hK.trans hKs, k + 1, by omega, by go_num, by rw [show updR (addVS m C i p t) (i * C) (k + 1) m = (updR (addVS m C i p t) (i * C) k m).set ix (addVS m C i p t k) by rw [← Hix.out]; rfl]; exact hO9⟩
      case measure => simp [intOf]; omega
    · have hkC : k = C := by omega
      subst hkC
      go_wp2
      exact bodyPost_end (results_none rfl _ _ _) rfl ⟨rfl, hO, (hG2.any).on hK (fun q hq hne => hne)⟩
set_option maxHeartbeats 4000000 in
set_option maxRecDepth 100000 in
theorem l5Neg_c (a : Option Addr) (n cp C i : Nat) (R t : Int) (m : List Int) (w : World) (h : Own w 3 1 a n cp (ints m)) (hi : i * C + C ≤ n) (hm : NumL m) (hn : n ≤ 1048576) (hi2 : i ≤ 1048576) (hC2 : C ≤ 1048576) :
    Calls Try.prog 136 #[.agg #[.int .i64 R, .int .i64 C, .slice a n cp], (.agg #[.int .i64 1, .int .i64 i, .int .i64 i, .int .i64 t])] w fun e w' => e = .returned (.tuple #[]) ∧ Own w' 3 1 a n cp (ints (negR m C i)) ∧ Keep (fun q => blk a ≠ some q) w w' := by
  obtain ⟨kd, hkd⟩ : ∃ kd : Int, kd = 1 := ⟨_, rfl⟩
  rw [← hkd]
  have hl : m.length = n := by simpa using h.len
  have hG2 : Grow w ((w.alloc (.cells #[.int .i64 R, .int .i64 (C : Int), .slice a n cp] 27)).alloc (.cells #[.int .i64 kd, .int .i64 (i : Int), .int .i64 (i : Int), .int .i64 t] 94)) := ((Grow.refl w).alloc _ _).alloc _ _
  obtain ⟨w2, hw2⟩ : ∃ w2, w2 = (w.alloc (.cells #[.int .i64 R, .int .i64 (C : Int), .slice a n cp] 27)).alloc (.cells #[.int .i64 kd, .int .i64 (i : Int), .int .i64 (i : Int), .int .i64 t] 94) := ⟨_, rfl⟩
  have bM : Blk w2 w.heap.size #[.int .i64 R, .int .i64 (C : Int), .slice a n cp] 27 := by rw [hw2]; exact (Blk.new w _ _).alloc _
  have bX : Blk w2 (w.heap.size + 1) #[.int .i64 kd, .int .i64 (i : Int), .int .i64 (i : Int), .int .i64 t] 94 := by rw [hw2]; exact Blk.newAt _ _ _ (by simp)
  have hO0 : Own w2 3 1 a n cp (ints m) := by rw [hw2]; exact h.grow hG2
  rw [← hw2] at hG2
  have nM : blk a ≠ some w.heap.size := fun e => by have := h.lt e; omega
  have nX : blk a ≠ some (w.heap.size + 1) := fun e => by have := h.lt e; omega
  have Hw2 := Lib.hid hw2; clear hw2
  clear h
  subst hkd
  go_enter Try.func136, Try.ntmps136
  go_wp2
  rw [← Hw2.out]
  go_loopw [4] (fun q wr => Keep (fun q => blk a ≠ some q) w2 wr ∧ ∃ k : Nat, k ≤ C ∧ q = .int .i64 k ∧ Own wr 3 1 a n cp (ints (updR (fun k => -cell m C i k) (i * C) k m))) (fun q _ => C - (intOf q).toNat)
  case atStart => exact ⟨Keep.refl _ _, 0, Nat.zero_le _, rfl, hO0⟩
  case round =>
    clear hO0
    obtain ⟨hK, k, hk, rfl, hO⟩ := hrel
    have bMr := bM.keep hK nM
    obtain ⟨⟨a0, a1, a2⟩, -⟩ := bMr.three
    by_cases hlt : k < C
    · have bXr := bX.keep hK nX
      have x0 := bXr.cell 0
      have x1 := bXr.cell 1
      have x2 := bXr.cell 2
      have x3 := bXr.cell 3
      simp only [List.getElem?_toArray, List.getElem?_cons_zero, List.getElem?_cons_succ] at x0 x1 x2 x3
      have hlen : (updR (fun k => -cell m C i k) (i * C) k m).length = n := by rw [updR_len, hl]
      have hg1 : (updR (fun k => -cell m C i k) (i * C) k m).getD (i * C + k) 0 = cell m C i k := by rw [updR_getD (by omega), if_neg (by omega)]; rfl
      obtain ⟨pb, rfl⟩ : ∃ pb, a = some ⟨pb, 0, none⟩ := by
        cases a with
        | none => have := hO.nil rfl; have := hO.le; omega
        | some q => exact ⟨q.block, by rw [← (hO.block q rfl).1]⟩
      have hc1 := hO.cell (ints_get (by omega) hg1)
      have hfr := hO.free (i * C + k)
      have hpb := hO.lt (g := pb) rfl
      have hsA := hm.getD (i * C + k)
      have u1 := mul_wrap (i := i) (c := C) hi2 hC2
      have u2 := idx_wrap (i := i) (c := C) (j := k) hi2 hC2 (by omega) rfl
      have hle := hO.le
      change -400000000 ≤ cell m C i k ∧ cell m C i k ≤ 400000000 at hsA
      have Hv := Lib.hid (show mulS (cell m C i k) (-1) = -cell m C i k by unfold mulS; rw [if_neg (by rintro (e | e); exact num_ne hsA e; exact num_ne (by omega) e), fitB_ok (isNumB_iff.2 (by omega))]; omega)
      have Hu := Lib.hid (show updR (fun k => -cell m C i k) (i * C) (k + 1) m = (updR (fun k => -cell m C i k) (i * C) k m).set (i * C + k) (-cell m C i k) from rfl)
      have hO9 := (hO.set (i * C + k) (.int .i64 (-cell m C i k))).grow (Grow.refl _).drew
      rw [← ints_set] at hO9
      clear hO hg1 hlen
      have Hcc := Lib.hid (rfl : cell m C i k = cell m C i k)
      generalize hca : cell m C i k = ca at hc1 hsA hO9 Hv Hu
      clear hca Hcc
      generalize hix : i * C + k = ix at *
      have hlx : ix < n := by omega
      have Hix := Lib.hid hix
      clear hix
      simp only at hc1 hfr hO9
      go_wp2
      refine wp_region_mix (S := (Keep (fun q => blk (some (⟨pb, 0, none⟩ : Addr)) ≠ some q) wr)) [0, 1, 2, 3, 4, 5, 6, 7, 8, 9] [10, 11, 12] P_mixed (by kernel_rfl) (fun _ _ _ _ _ h => h) (Keep.refl _ _).drew ?_
      show wpQuiet _ _ _ (fun a' => wpListS _ _ _ _ [_, _, _] a' _) [_, _, _, _, _, _, _, _, _, _] _
      repeat (first | go_big_quiet_skip | (go_big_quiet_want; first | (apply quiet_load CT_ints; rfl; rfl; exact (fun w' hG => hG.cell nM a2); go_big_quiet_on; simp only [Act.put, List.setIfInBounds_toArray, List.set_cons_succ, List.set_cons_zero]) | (apply quiet_load CT_int; rfl; rfl; exact (fun w' hG => hG.cell nX x1); go_big_quiet_on; simp only [Act.put, List.setIfInBounds_toArray, List.set_cons_succ, List.set_cons_zero]) | (apply quiet_load CT_int; rfl; rfl; exact (fun w' hG => hG.cell nM a1); go_big_quiet_on; simp only [Act.put, List.setIfInBounds_toArray, List.set_cons_succ, List.set_cons_zero]) | (go_big_quiet_op; first | go_big_quiet_on | (refine ⟨_, (fun _ _ => rfl), ?_⟩; go_big_quiet_on))))
      refine wpQuiet_nil ?_
      show wpListS _ _ _ _ _ _ _
      refine wpListS_step rfl (fun K hK => ?_)
      go_wp2_with fail
      refine (l1Mul_c ca (-1) _ (.inl hsA) (.inl (by omega))).mono ?_
      rintro e _ ⟨rfl, rfl⟩
      rw [Hv.out]
      go_wp2_with fail
      refine hK _ _ ((Keep.refl _ _).drew) ?_
      clear hK K
      refine wpListS_step rfl (fun K hK => ?_)
      go_wp2_with fail
      refine hK _ _ ((Keep.refl _ _).drew) ?_
      clear hK K
      refine wpListS_step rfl (fun K hK => ?_)
      go_wp2_with fail
      have hKs : Keep (fun q => blk (some (⟨pb, 0, none⟩ : Addr)) ≠ some q) wr (wr.setCell ⟨pb, ix, none⟩ (.int .i64 (-ca))).drew := ((Keep.refl _ wr).setCell (p := ⟨pb, ix, none⟩) (fun _ e => e rfl) _).drew
      refine hK _ _ (hKs) ?_
      clear hK K
      refine wpListS_nil ?_
      go_wp2
      go_roundw
      case rel => exact ⟨hK.trans hKs, k + 1, by omega, by go_num, by rw [Hu.out]; exact hO9⟩
      case measure => simp [intOf]; omega
    · have hkC : k = C := by omega
      subst hkC
      go_wp2
      exact bodyPost_end (results_none rfl _ _ _) rfl ⟨rfl, hO, (hG2.any).on hK (fun q hq hne => hne)⟩
end Go.Proofs.Ythlncohllbmapaa
