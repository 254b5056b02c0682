/-
  Copies of a matrix: the program's and the reference's.
-/
import Derived.Test.YthlncohllbmapaaMat
import Derived.Test.YthlncohllbmapaaApp2
namespace Go.Proofs.Ythlncohllbmapaa
open Go.RowKit

set_option maxHeartbeats 1000000 in
set_option maxRecDepth 100000 in
theorem copyMatrix_c {S : Nat → Prop} {v : Value} {m : Mat} {w : World} (h : VM w S v m) (hb : bdM m ≤ 1048576) : Calls Try.prog 124 #[v] w fun e w' => ∃ v', e = .returned v' ∧ OM w' (New w w') v' m ∧ Grow w w' := by
  obtain ⟨a, n, c, rfl, h, hr, hc⟩ := h
  have hl := h.len
  unfold bdM at hb
  obtain ⟨w0, hw0⟩ : ∃ w0, w0 = ((w.alloc (.cells #[.int .i64 m.rows, .int .i64 m.cols, .slice a n c] 27)).alloc (.cells #[.int .i64 0, .int .i64 0, .slice none 0 0] 27)).alloc (.cells #[] 3) := ⟨_, rfl⟩
  have hG0 : Grow w w0 := by rw [hw0]; exact (((Grow.refl w).alloc _ _).alloc _ _).alloc _ _
  have hs0 : w0.heap.size = w.heap.size + 3 := by rw [hw0]; simp
  have b1 : Blk w0 w.heap.size #[.int .i64 m.rows, .int .i64 m.cols, .slice a n c] 27 := by rw [hw0]; exact ((Blk.newAt _ _ _ rfl).alloc _).alloc _
  have b2 : Blk w0 (w.heap.size + 1) #[.int .i64 0, .int .i64 0, .slice none 0 0] 27 := by rw [hw0]; exact (Blk.newAt _ _ _ (by simp)).alloc _
  have hE : Own w0 3 1 (some ⟨w.heap.size + 1 + 1, 0, none⟩) 0 0 [] := by rw [hw0]; exact Own.freshAt (by simp) (by unfold maxLen; omega) rfl
  obtain ⟨⟨x0, x1, x2⟩, -⟩ := b1.three
  have Hw0 := Lib.hid hw0; clear hw0
  go_enter Try.func124, Try.ntmps124
  go_wp2_with (at_builtin; rw [← Hw0.out]; refine wpList_app rfl (.tmp 3) (.tmp 5) _ rfl T_ints rfl hE rfl (h.row.grow hG0) (ints_one _) (by omega) (by unfold maxLen; omega) ?_; intro a2 c2 w2 hA2; obtain ⟨⟨z0, z1, z2⟩, g0, g1, g2⟩ := (b1.keep hA2.keep (by simp; omega)).three; obtain ⟨⟨y0, y1, y2⟩, f0, f1, f2⟩ := (b2.keep hA2.keep (by simp)).three)
  have hne1 : w.heap.size + 1 ≠ w.heap.size := by omega
  have hG2 : Grow w w2 := hA2.grow hG0 (fun g hg => by simp at hg; omega)
  have hl2 := hA2.lo (B := w.heap.size + 2) (by omega) (fun g hg => by simp at hg; omega)
  have ho2 : Own w2 3 1 a2 n c2 (ints m.cells) := by simpa using hA2.own
  have hB2 := b2.keep hA2.keep (by simp)
  have hs2 := hG2.size
  have hK : Keep (fun q => q ≠ w.heap.size ∧ q ≠ w.heap.size + 1) w2 ((((w2.setCell ⟨w.heap.size, 2, none⟩ (.slice a2 n c2)).setCell ⟨w.heap.size + 1, 0, none⟩ (.int .i64 m.rows)).setCell ⟨w.heap.size + 1, 1, none⟩ (.int .i64 m.cols)).setCell ⟨w.heap.size + 1, 2, none⟩ (.slice a2 n c2)) :=
    ((((Keep.refl _ w2).setCell (fun _ e => e.1 rfl) _).setCell (fun _ e => e.2 rfl) _).setCell (fun _ e => e.2 rfl) _).setCell (fun _ e => e.2 rfl) _
  have hof := ho2.keep hK (fun g hg _ => by have := hl2 g hg; omega)
  have hBf := (((hB2.other (p := ⟨w.heap.size, 2, none⟩) (by simp) (.slice a2 n c2)).set 0 (.int .i64 m.rows)).set 1 (.int .i64 m.cols)).set 2 (.slice a2 n c2)
  have hl' := hl
  refine ret_cell T_mat rfl rfl rfl hBf ⟨_, rfl, ⟨a2, n, c2, rfl, hof, h.rng, fun g hg => ⟨by have := hl2 g hg; omega, hof.lt hg⟩, hr, hc⟩, hG2.keep hK fun q hq => by omega⟩
set_option maxHeartbeats 1000000 in
set_option maxRecDepth 100000 in
theorem l3Copy_c {S : Nat → Prop} {v : Value} {m : Mat} {w : World} (h : VM w S v m) (hb : bdM m ≤ 1048576) : Calls Try.prog 104 #[v] w fun e w' => ∃ v', e = .returned v' ∧ OM w' (New w w') v' m ∧ Grow w w' := by
  obtain ⟨a, n, c, rfl, h, hr, hc⟩ := h
  have hl := h.len
  unfold bdM at hb
  obtain ⟨w0, hw0⟩ : ∃ w0, w0 = (w.alloc (.cells #[.int .i64 m.rows, .int .i64 m.cols, .slice a n c] 27)).alloc (.cells #[.int .i64 0, .int .i64 0, .slice none 0 0] 27) := ⟨_, rfl⟩
  have hG0 : Grow w w0 := by rw [hw0]; exact ((Grow.refl w).alloc _ _).alloc _ _
  have hs0 : w0.heap.size = w.heap.size + 2 := by rw [hw0]; simp
  have b1 : Blk w0 w.heap.size #[.int .i64 m.rows, .int .i64 m.cols, .slice a n c] 27 := by rw [hw0]; exact (Blk.newAt _ _ _ rfl).alloc _
  have b2 : Blk w0 (w.heap.size + 1) #[.int .i64 0, .int .i64 0, .slice none 0 0] 27 := by rw [hw0]; exact Blk.newAt _ _ _ (by simp)
  obtain ⟨⟨x0, x1, x2⟩, -⟩ := b1.three
  have Hw0 := Lib.hid hw0; clear hw0
  go_enter Try.func104, Try.ntmps104
  go_wp2_with fail
  rw [← Hw0.out]
  refine wp_region_segs (S := (Keep (fun q => q ≠ w.heap.size + 1) w0)) [([0, 1, 2, 3, 5, 6], some 4), ([], some 7), ([], some 8), ([], some 9)] P_mixed (by kernel_rfl) (fun _ _ _ _ _ h => h) (Keep.refl _ _).drew ?_
  show wpQuiet _ _ _ _ [_, _, _, _, _, _] _
  repeat (first | go_big_quiet_skip | (go_big_quiet_want; first | (apply quiet_load CT_int; rfl; rfl; exact (fun w' hG => hG.cell (by simp) x0); go_big_quiet_on; simp only [Act.put, List.setIfInBounds_toArray, List.set_cons_succ, List.set_cons_zero]) | (apply quiet_load CT_int; rfl; rfl; exact (fun w' hG => hG.cell (by simp) x1); go_big_quiet_on; simp only [Act.put, List.setIfInBounds_toArray, List.set_cons_succ, List.set_cons_zero]) | (apply quiet_load CT_ints; rfl; rfl; exact (fun w' hG => hG.cell (by simp) x2); go_big_quiet_on; simp only [Act.put, List.setIfInBounds_toArray, List.set_cons_succ, List.set_cons_zero]) | (go_big_quiet_op; first | go_big_quiet_on | (refine ⟨_, (fun _ _ => rfl), ?_⟩; go_big_quiet_on))))
  refine wpQuiet_nil ?_
  obtain ⟨w1, hw1⟩ : ∃ w1, w1 = w0.drew := ⟨_, rfl⟩
  rw [← hw1]
  have hG1 : Grow w0 w1 := by rw [hw1]; exact (Grow.refl _).drew
  clear hw1
  have hs1 := hG1.size
  refine seg_go rfl (fun K hK => ?_)
  refine par_built0 rfl T_ints ?_
  have hE : Own (w1.alloc (.cells #[] 3)) 3 1 (some ⟨w1.heap.size, 0, none⟩) 0 0 [] := Own.freshAt rfl (by unfold maxLen; omega) rfl
  refine hK _ _ ((hG1.alloc _ _).mono fun _ _ _ => trivial) ?_
  clear hK K
  show wpQuiet _ _ _ _ [] _
  try (conv => arg 6; simp only [Act.put, List.setIfInBounds_toArray, List.set_cons_succ, List.set_cons_zero])
  refine wpQuiet_nil ?_
  refine seg_go rfl (fun K hK => ?_)
  refine op_app rfl T_ints rfl hE rfl (h.row.grow (hG0.trans (hG1.alloc _ _))) (ints_one _) (by omega) (by unfold maxLen; omega) ?_
  intro a2 c2 w2 hA2
  have hG2 : Grow w0 w2 := hA2.grow (hG1.alloc _ _) (fun g hg => by simp at hg; omega)
  have hl2 := hA2.lo (B := w.heap.size + 2) (by simp; omega) (fun g hg => by simp at hg; omega)
  have ho2 : Own w2 3 1 a2 n c2 (ints m.cells) := by simpa using hA2.own
  have hs2 := hG2.size
  have hB2 := b2.grow hG2
  clear hA2 hE
  rw [Nat.zero_add]
  refine hK _ _ (hG2.mono fun _ _ _ => trivial) ?_
  clear hK K
  show wpQuiet _ _ _ _ [] _
  try (conv => arg 6; simp only [Act.put, List.setIfInBounds_toArray, List.set_cons_succ, List.set_cons_zero])
  refine wpQuiet_nil ?_
  refine seg_go rfl (fun K hK => ?_)
  go_wp2_with fail
  refine hK _ _ ((hG2.mono fun _ _ _ => trivial)) ?_
  clear hK K
  show wpQuiet _ _ _ _ [] _
  try (conv => arg 6; simp only [Act.put, List.setIfInBounds_toArray, List.set_cons_succ, List.set_cons_zero])
  refine wpQuiet_nil ?_
  refine seg_go rfl (fun K hK => ?_)
  obtain ⟨⟨y0, y1, y2⟩, f0, f1, f2⟩ := hB2.three
  go_wp2_with fail
  have hK2 : Keep (fun q => q ≠ w.heap.size + 1) w2 (((w2.setCell ⟨w.heap.size + 1, 0, none⟩ (.int .i64 m.rows)).setCell ⟨w.heap.size + 1, 1, none⟩ (.int .i64 m.cols)).setCell ⟨w.heap.size + 1, 2, none⟩ (.slice a2 n c2)) :=
    (((Keep.refl _ w2).setCell (fun _ e => e rfl) _).setCell (fun _ e => e rfl) _).setCell (fun _ e => e rfl) _
  refine hK _ _ (((hG2.mono fun _ _ _ => trivial).trans hK2)) ?_
  clear hK K
  refine wpSegs_nil ?_
  have hof := ho2.keep hK2 (fun g hg _ e => by have := hl2 g hg; omega)
  have hBf := ((hB2.set 0 (.int .i64 m.rows)).set 1 (.int .i64 m.cols)).set 2 (.slice a2 n c2)
  have hGw := (hG0.trans hG2).keep hK2 fun q hq => by omega
  go_wp2
  refine ret_cell T_mat rfl rfl rfl hBf ⟨_, rfl, ⟨a2, n, c2, rfl, hof, h.rng, fun g hg => ⟨by have := hl2 g hg; omega, hof.lt hg⟩, hr, hc⟩, hGw⟩
end Go.Proofs.Ythlncohllbmapaa
