/-
  The program's row operations: swap, negation.
-/
import Derived.Test.YthlncohllbmapaaHermV
namespace Go.Proofs.Ythlncohllbmapaa
open Go.RowKit

set_option maxHeartbeats 4000000 in
set_option maxRecDepth 100000 in
theorem rowOpSwap_c (a : Option Addr) (n cp C i p R : Nat) (t : Int) (m : List Int) (w : World) (h : Own w 3 1 a n cp (ints m)) (hmR : m.length = R * C) (hiR : i < R) (hpR : p < R) (hip : i ≠ p) (hi2 : i ≤ 1000) (hp2 : p ≤ 1000) (hC2 : C ≤ 1048576) :
    Calls Try.prog 126 #[.agg #[.int .i64 (R : Int), .int .i64 C, .slice a n cp], .agg #[.int .i64 0, .int .i64 i, .int .i64 p, .int .i64 t]] w fun e w' => e = .returned (.bool true) ∧ Own w' 3 1 a n cp (ints (swR m C i p)) ∧ Keep (fun q => blk a ≠ some q) w w' := by
  have hi := row_le hmR hiR
  have hp := row_le hmR hpR
  rw [show m.length = n by simpa using h.len] at hi hp
  obtain ⟨kd, hkd⟩ : ∃ kd : Int, kd = 0 := ⟨_, rfl⟩
  rw [← hkd]
  have hl : m.length = n := by simpa using h.len
  obtain ⟨w2, hw2⟩ : ∃ w2, w2 = (w.alloc (.cells #[.int .i64 (R : Int), .int .i64 (C : Int), .slice a n cp] 27)).alloc (.cells #[.int .i64 kd, .int .i64 (i : Int), .int .i64 (p : Int), .int .i64 t] 94) := ⟨_, rfl⟩
  have hG2 : Grow w w2 := by rw [hw2]; exact ((Grow.refl w).alloc _ _).alloc _ _
  have bM : Blk w2 w.heap.size #[.int .i64 (R : Int), .int .i64 (C : Int), .slice a n cp] 27 := by rw [hw2]; exact (Blk.new w _ _).alloc _
  have bX : Blk w2 (w.heap.size + 1) #[.int .i64 kd, .int .i64 (i : Int), .int .i64 (p : Int), .int .i64 t] 94 := by rw [hw2]; exact Blk.newAt _ _ _ (by simp)
  have hO0 : Own w2 3 1 a n cp (ints m) := h.grow hG2
  have nX : blk a ≠ some (w.heap.size + 1) := fun e => by have := h.lt e; omega
  have Hw2 := Lib.hid hw2; clear hw2
  have hlow : ∀ q, blk a = some q → q < w.heap.size := fun q hq => h.lt hq
  clear h
  subst hkd
  go_enter Try.func126, Try.ntmps126
  go_wp2_with fail
  rw [← Hw2.out]
  refine (row_c a n cp C i (R : Int) m _ hO0 hi (by omega) hC2).mono ?_
  rintro e w3 ⟨a1, rfl, hA1, hG3⟩
  have hO3 := hO0.grow hG3
  have bX3 := bX.grow hG3
  have bM3 := bM.grow hG3
  obtain ⟨⟨m0, m1, m2⟩, -⟩ := bM3.three
  have x0 := bX3.cell 0
  have x1 := bX3.cell 1
  have x2 := bX3.cell 2
  have x3 := bX3.cell 3
  simp only [List.getElem?_toArray, List.getElem?_cons_zero, List.getElem?_cons_succ] at x0 x1 x2 x3
  go_wp2_with fail
  refine (row_c a n cp C p (R : Int) m _ hO3 hp (by omega) hC2).mono ?_
  rintro e w4 ⟨b1, rfl, hB1, hG4⟩
  have hO4 := hO3.grow hG4
  have bX4 := bX3.grow hG4
  have hG24 := (hG2.trans hG3).trans hG4
  clear x0 x1 x2 x3 m0 m1 m2 bM3 bX3 hO3 hO0 bM bX
  go_wp2
  go_loopw [19] (fun q wr => Keep (fun q => blk a ≠ some q) w4 wr ∧ ∃ k : Nat, k ≤ C ∧ q = .int .i64 k ∧ Own wr 3 1 a n cp (ints (swN m C i p k))) (fun q _ => C - (intOf q).toNat)
  case atStart => exact ⟨Keep.refl _ _, 0, Nat.zero_le _, rfl, hO4⟩
  case round =>
    clear hO4
    obtain ⟨hK, k, hk, rfl, hO⟩ := hrel
    by_cases hlt : k < C
    · have bXr := bX4.keep hK nX
      have x0 := bXr.cell 0
      simp only [List.getElem?_toArray, List.getElem?_cons_zero] at x0
      have hltX := bXr.lt
      have hlen : (swN m C i p k).length = n := by rw [swN_len, hl]
      have hg1 : (swN m C i p k).getD (i * C + k) 0 = cell m C i k := by rw [swN_getD hmR hiR hpR hip k (by omega) i k hlt, if_neg (by omega), if_neg (by omega)]
      have hg2 : (swN m C i p k).getD (p * C + k) 0 = cell m C p k := by rw [swN_getD hmR hiR hpR hip k (by omega) p k hlt, if_neg (by omega), if_neg (by omega)]
      obtain ⟨pb, rfl, rfl⟩ := hA1 (by omega)
      obtain ⟨pb', hpb', rfl⟩ := hB1 (by omega)
      obtain rfl : pb = pb' := by simpa using hpb'
      have hc1 := hO.cell (ints_get (by omega) hg1)
      have hc2 := hO.cell (ints_get (by omega) hg2)
      have hfr := hO.free (i * C + k)
      have hfr2 := hO.free (p * C + k)
      have hpb := hO.lt (g := pb) rfl
      have hcx : i * C + k ≠ p * C + k := fun e => hip (place_eq hlt hlt e).1
      have hO9 := ((hO.set (i * C + k) (.int .i64 (cell m C p k))).set (p * C + k) (.int .i64 (cell m C i k))).grow (Grow.refl _).drew
      rw [← ints_set, ← ints_set] at hO9
      have Hu := Lib.hid (show swN m C i p (k + 1) = ((swN m C i p k).set (i * C + k) (cell m C p k)).set (p * C + k) (cell m C i k) from rfl)
      have hKs : Keep (fun q => blk (some (⟨pb, 0, none⟩ : Addr)) ≠ some q) wr ((wr.setCell ⟨pb, i * C + k, none⟩ (.int .i64 (cell m C p k))).setCell ⟨pb, p * C + k, none⟩ (.int .i64 (cell m C i k))).drew := (((Keep.refl _ wr).setCell (p := ⟨pb, i * C + k, none⟩) (fun _ e => e rfl) _).setCell (p := ⟨pb, p * C + k, none⟩) (fun _ e => e rfl) _).drew
      clear hO hg1 hg2 hlen hA1 hB1 hpb'
      generalize cell m C i k = ca at hc1 hO9 Hu hKs
      generalize cell m C p k = cb at hc2 hO9 Hu hKs
      simp only at hc1 hc2 hfr hfr2
      go_wp2
      go_region
      go_wp2
      go_roundw
      case rel => exact ⟨hK.trans hKs, k + 1, by omega, by go_num, by rw [Hu.out]; exact hO9⟩
      case measure => simp [intOf]; omega
    · have hkC : k = C := by omega
      subst hkC
      go_wp2
      go_ret
      exact ⟨rfl, hO, hG24.any.trans hK⟩
set_option maxHeartbeats 4000000 in
set_option maxRecDepth 100000 in
theorem rowOpNeg_c (a : Option Addr) (n cp C i R : Nat) (t : Int) (m : List Int) (w : World) (h : Own w 3 1 a n cp (ints m)) (hmR : m.length = R * C) (hiR : i < R) (hm : NumL m) (hi2 : i ≤ 1000) (hC2 : C ≤ 1048576) :
    Calls Try.prog 126 #[.agg #[.int .i64 (R : Int), .int .i64 C, .slice a n cp], .agg #[.int .i64 1, .int .i64 i, .int .i64 i, .int .i64 t]] w fun e w' => e = .returned (.bool true) ∧ Own w' 3 1 a n cp (ints (negR m C i)) ∧ Keep (fun q => blk a ≠ some q) w w' := by
  have hi := row_le hmR hiR
  rw [show m.length = n by simpa using h.len] at hi
  obtain ⟨kd, hkd⟩ : ∃ kd : Int, kd = 1 := ⟨_, rfl⟩
  rw [← hkd]
  have hl : m.length = n := by simpa using h.len
  obtain ⟨w2, hw2⟩ : ∃ w2, w2 = (w.alloc (.cells #[.int .i64 (R : Int), .int .i64 (C : Int), .slice a n cp] 27)).alloc (.cells #[.int .i64 kd, .int .i64 (i : Int), .int .i64 (i : Int), .int .i64 t] 94) := ⟨_, rfl⟩
  have hG2 : Grow w w2 := by rw [hw2]; exact ((Grow.refl w).alloc _ _).alloc _ _
  have bM : Blk w2 w.heap.size #[.int .i64 (R : Int), .int .i64 (C : Int), .slice a n cp] 27 := by rw [hw2]; exact (Blk.new w _ _).alloc _
  have bX : Blk w2 (w.heap.size + 1) #[.int .i64 kd, .int .i64 (i : Int), .int .i64 (i : Int), .int .i64 t] 94 := by rw [hw2]; exact Blk.newAt _ _ _ (by simp)
  have hO0 : Own w2 3 1 a n cp (ints m) := h.grow hG2
  have nX : blk a ≠ some (w.heap.size + 1) := fun e => by have := h.lt e; omega
  have Hw2 := Lib.hid hw2; clear hw2
  have hlow : ∀ q, blk a = some q → q < w.heap.size := fun q hq => h.lt hq
  clear h
  subst hkd
  go_enter Try.func126, Try.ntmps126
  go_wp2_with fail
  rw [← Hw2.out]
  refine (row_c a n cp C i (R : Int) m _ hO0 hi (by omega) hC2).mono ?_
  rintro e w3 ⟨a1, rfl, hA1, hG3⟩
  have hO3 := hO0.grow hG3
  have bX3 := bX.grow hG3
  have bM3 := bM.grow hG3
  obtain ⟨⟨m0, m1, m2⟩, -⟩ := bM3.three
  have x0 := bX3.cell 0
  have x1 := bX3.cell 1
  have x2 := bX3.cell 2
  have x3 := bX3.cell 3
  simp only [List.getElem?_toArray, List.getElem?_cons_zero, List.getElem?_cons_succ] at x0 x1 x2 x3
  go_wp2_with fail
  refine (row_c a n cp C i (R : Int) m _ hO3 hi (by omega) hC2).mono ?_
  rintro e w4 ⟨b1, rfl, hB1, hG4⟩
  have hO4 := hO3.grow hG4
  have bX4 := bX3.grow hG4
  have hG24 := (hG2.trans hG3).trans hG4
  clear x0 x1 x2 x3 m0 m1 m2 bM3 bX3 hO3 hO0 bM bX
  go_wp2
  go_loopw [19] (fun q wr => Keep (fun q => blk a ≠ some q) w4 wr ∧ ∃ k : Nat, k ≤ C ∧ q = .int .i64 k ∧ Own wr 3 1 a n cp (ints (updR (fun k => -cell m C i k) (i * C) k m))) (fun q _ => C - (intOf q).toNat)
  case atStart => exact ⟨Keep.refl _ _, 0, Nat.zero_le _, rfl, hO4⟩
  case round =>
    clear hO4
    obtain ⟨hK, k, hk, rfl, hO⟩ := hrel
    by_cases hlt : k < C
    · have bXr := bX4.keep hK nX
      have x0 := bXr.cell 0
      simp only [List.getElem?_toArray, List.getElem?_cons_zero] at x0
      have hltX := bXr.lt
      have hlen : (updR (fun k => -cell m C i k) (i * C) k m).length = n := by rw [updR_len, hl]
      have hg1 : (updR (fun k => -cell m C i k) (i * C) k m).getD (i * C + k) 0 = cell m C i k := by rw [updR_getD (by omega), if_neg (by omega)]; rfl
      obtain ⟨pb, rfl, rfl⟩ := hA1 (by omega)
      have hc1 := hO.cell (ints_get (by omega) hg1)
      have hfr := hO.free (i * C + k)
      have hpb := hO.lt (g := pb) rfl
      have hsA := cell_num hm C i k
      have hO9 := hO.set (i * C + k) (.int .i64 (-cell m C i k))
      rw [← ints_set] at hO9
      have Hu := Lib.hid (show updR (fun k => -cell m C i k) (i * C) (k + 1) m = (updR (fun k => -cell m C i k) (i * C) k m).set (i * C + k) (-cell m C i k) from rfl)
      have hKs : Keep (fun q => blk (some (⟨pb, 0, none⟩ : Addr)) ≠ some q) wr (wr.setCell ⟨pb, i * C + k, none⟩ (.int .i64 (-cell m C i k))) := (Keep.refl _ wr).setCell (p := ⟨pb, i * C + k, none⟩) (fun _ e => e rfl) _
      clear hO hg1 hlen hA1 hB1
      generalize hca : cell m C i k = ca at hc1 hsA hO9 Hu hKs
      clear hca
      simp only at hc1 hfr
      go_wp2
      go_roundw
      case rel => exact ⟨hK.trans hKs, k + 1, by omega, by go_num, by rw [Hu.out]; exact hO9⟩
      case measure => simp [intOf]; omega
    · have hkC : k = C := by omega
      subst hkC
      go_wp2
      go_ret
      exact ⟨rfl, hO, hG24.any.trans hK⟩
end Go.Proofs.Ythlncohllbmapaa
