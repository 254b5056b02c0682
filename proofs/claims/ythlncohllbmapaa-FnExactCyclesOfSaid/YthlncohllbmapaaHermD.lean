/-
  The reference's swap of two rows; operations at both matrices.
-/
import Derived.Test.YthlncohllbmapaaHermC
namespace Go.Proofs.Ythlncohllbmapaa
open Go.RowKit

set_option maxHeartbeats 4000000 in
set_option maxRecDepth 100000 in
theorem l5Swap_c (a : Option Addr) (n cp C i p R : Nat) (t : Int) (m : List Int) (w : World) (h : Own w 3 1 a n cp (ints m)) (hmR : m.length = R * C) (hiR : i < R) (hpR : p < R) (hip : i ≠ p) (hm : NumL m) (hn : n ≤ 1048576) (hi2 : i ≤ 1048576) (hp2 : p ≤ 1048576) (hC2 : C ≤ 1048576) :
    Calls Try.prog 136 #[.agg #[.int .i64 (R : Int), .int .i64 C, .slice a n cp], .agg #[.int .i64 0, .int .i64 i, .int .i64 p, .int .i64 t]] w fun e w' => e = .returned (.tuple #[]) ∧ Own w' 3 1 a n cp (ints (swR m C i p)) ∧ Keep (fun q => blk a ≠ some q) w w' := by
  have hi := row_le hmR hiR
  have hp := row_le hmR hpR
  rw [show m.length = n by simpa using h.len] at hi hp
  obtain ⟨kd, hkd⟩ : ∃ kd : Int, kd = 0 := ⟨_, rfl⟩
  rw [← hkd]
  have hl : m.length = n := by simpa using h.len
  have hG2 : Grow w ((w.alloc (.cells #[.int .i64 R, .int .i64 (C : Int), .slice a n cp] 27)).alloc (.cells #[.int .i64 kd, .int .i64 (i : Int), .int .i64 (p : Int), .int .i64 t] 94)) := ((Grow.refl w).alloc _ _).alloc _ _
  obtain ⟨w2, hw2⟩ : ∃ w2, w2 = (w.alloc (.cells #[.int .i64 R, .int .i64 (C : Int), .slice a n cp] 27)).alloc (.cells #[.int .i64 kd, .int .i64 (i : Int), .int .i64 (p : Int), .int .i64 t] 94) := ⟨_, rfl⟩
  have bM : Blk w2 w.heap.size #[.int .i64 R, .int .i64 (C : Int), .slice a n cp] 27 := by rw [hw2]; exact (Blk.new w _ _).alloc _
  have bX : Blk w2 (w.heap.size + 1) #[.int .i64 kd, .int .i64 (i : Int), .int .i64 (p : Int), .int .i64 t] 94 := by rw [hw2]; exact Blk.newAt _ _ _ (by simp)
  have hO0 : Own w2 3 1 a n cp (ints m) := by rw [hw2]; exact h.grow hG2
  rw [← hw2] at hG2
  have nM : blk a ≠ some w.heap.size := fun e => by have := h.lt e; omega
  have nX : blk a ≠ some (w.heap.size + 1) := fun e => by have := h.lt e; omega
  have Hw2 := Lib.hid hw2; clear hw2
  clear h
  subst hkd
  go_enter Try.func136, Try.ntmps136
  go_wp2
  rw [← Hw2.out]
  go_loopw [4] (fun q wr => Keep (fun q => blk a ≠ some q) w2 wr ∧ ∃ k : Nat, k ≤ C ∧ q = .int .i64 k ∧ Own wr 3 1 a n cp (ints (swN m C i p k))) (fun q _ => C - (intOf q).toNat)
  case atStart => exact ⟨Keep.refl _ _, 0, Nat.zero_le _, rfl, hO0⟩
  case round =>
    clear hO0
    obtain ⟨hK, k, hk, rfl, hO⟩ := hrel
    have bMr := bM.keep hK nM
    obtain ⟨⟨a0, a1, a2⟩, -⟩ := bMr.three
    by_cases hlt : k < C
    · have bXr := bX.keep hK nX
      have x0 := bXr.cell 0
      have x1 := bXr.cell 1
      have x2 := bXr.cell 2
      have x3 := bXr.cell 3
      simp only [List.getElem?_toArray, List.getElem?_cons_zero, List.getElem?_cons_succ] at x0 x1 x2 x3
      have hlen : (swN m C i p k).length = n := by rw [swN_len, hl]
      have hg1 : (swN m C i p k).getD (i * C + k) 0 = cell m C i k := by rw [swN_getD hmR hiR hpR hip k (by omega) i k hlt, if_neg (by omega), if_neg (by omega)]
      have hg2 : (swN m C i p k).getD (p * C + k) 0 = cell m C p k := by
        rw [swN_getD hmR hiR hpR hip k (by omega) p k hlt, if_neg (by omega), if_neg (by omega)]
      obtain ⟨pb, rfl⟩ : ∃ pb, a = some ⟨pb, 0, none⟩ := by
        cases a with
        | none => have := hO.nil rfl; have := hO.le; omega
        | some q => exact ⟨q.block, by rw [← (hO.block q rfl).1]⟩
      have hc1 := hO.cell (ints_get (by omega) hg1)
      have hc2 := hO.cell (ints_get (by omega) hg2)
      have hfr := hO.free (i * C + k)
      have hpb := hO.lt (g := pb) rfl
      have hsA := hm.getD (i * C + k)
      have hsB := hm.getD (p * C + k)
      have u1 := mul_wrap (i := i) (c := C) hi2 hC2
      have u2 := idx_wrap (i := i) (c := C) (j := k) hi2 hC2 (by omega) rfl
      have u3 := mul_wrap (i := p) (c := C) hp2 hC2
      have u4 := idx_wrap (i := p) (c := C) (j := k) hp2 hC2 (by omega) rfl
      have hle := hO.le
      change -400000000 ≤ cell m C i k ∧ cell m C i k ≤ 400000000 at hsA
      change -400000000 ≤ cell m C p k ∧ cell m C p k ≤ 400000000 at hsB
      have hcx : i * C + k ≠ p * C + k := fun e => hip (place_eq hlt hlt e).1
      have hO9 := ((hO.set (i * C + k) (.int .i64 (cell m C p k))).set (p * C + k) (.int .i64 (cell m C i k)))
      rw [← ints_set, ← ints_set] at hO9
      have Hu := Lib.hid (show swN m C i p (k + 1) = ((swN m C i p k).set (i * C + k) (cell m C p k)).set (p * C + k) (cell m C i k) from rfl)
      have hfr2 := hO.free (p * C + k)
      clear hO hg1 hg2 hlen
      generalize cell m C i k = ca at hc1 hsA hO9 Hu
      generalize cell m C p k = cb at hc2 hsB hO9 Hu
      generalize hix : i * C + k = ix at *
      generalize hiy : p * C + k = iy at *
      have hlx : ix < n := by omega
      have hly : iy < n := by omega
      clear hix hiy
      simp only at hc1 hc2 hfr hfr2 hO9
      have n1 : pb ≠ w.heap.size := fun e => nM (by rw [e]; rfl)
      have n2 : pb ≠ w.heap.size + 1 := fun e => nX (by rw [e]; rfl)
      have n3 := Ne.symm n1
      have n4 := Ne.symm n2
      go_wp2
      have hKs : Keep (fun q => blk (some (⟨pb, 0, none⟩ : Addr)) ≠ some q) wr ((wr.setCell ⟨pb, ix, none⟩ (.int .i64 cb)).setCell ⟨pb, iy, none⟩ (.int .i64 ca)) := ((Keep.refl _ wr).setCell (p := ⟨pb, ix, none⟩) (fun _ e => e rfl) _).setCell (p := ⟨pb, iy, none⟩) (fun _ e => e rfl) _
      go_roundw
      case rel => exact ⟨hK.trans hKs, k + 1, by omega, by go_num, by rw [Hu.out]; exact hO9⟩
      case measure => simp [intOf]; omega
    · have hkC : k = C := by omega
      subst hkC
      go_wp2
      exact bodyPost_end (results_none rfl _ _ _) rfl ⟨rfl, hO, (hG2.any).on hK (fun q hq hne => hne)⟩
end Go.Proofs.Ythlncohllbmapaa
