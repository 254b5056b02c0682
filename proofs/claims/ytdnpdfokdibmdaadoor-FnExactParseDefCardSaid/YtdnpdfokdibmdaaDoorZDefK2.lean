/-
  The laws' helpers on definitions: copying, comparing.
-/
import Derived.Test.YtdnpdfokdibmdaaDoorZDefK
namespace Go.Proofs.YtdnpdfokdibmdaaDoor
open Go.RowKit

theorem T_ldef : StT Tryd.prog 26 7 := ⟨_, Tryd.underlying26, by kernel_rfl⟩
set_option maxHeartbeats 2000000 in
set_option maxRecDepth 100000 in
theorem to_D {S : Nat → Prop} {v : Value} {d : Dfn} {w : World} (h : VD w S v d) (hb : bdD d ≤ 1048576) : Calls Tryd.prog 7 #[v] w fun e w' => ∃ v', e = .returned v' ∧ OD w' (New w w') v' d ∧ Grow w w' := by
  obtain ⟨a, n, c, rfl, h, ho⟩ := h
  unfold bdD at hb
  obtain ⟨o1, o2, o3, o4, o5, o6⟩ := ho
  obtain ⟨w0, hw0⟩ : ∃ w0, w0 = ((w.alloc (.cells #[.string d.name, .int .i64 d.op, .string d.a, .string d.b, .int .i64 d.value.rows, .int .i64 d.value.cols, .slice a n c] 26)).alloc (.cells #[.string ⟨#[]⟩, .int .i64 0, .string ⟨#[]⟩, .string ⟨#[]⟩, .int .i64 0, .int .i64 0, .slice none 0 0] 31)).alloc (.cells #[.string d.name, .int .i64 d.op, .string d.a, .string d.b, .int .i64 0, .int .i64 0, .slice none 0 0] 31) := ⟨_, rfl⟩
  have hG0 : Grow w w0 := by rw [hw0]; exact (((Grow.refl w).alloc _ _).alloc _ _).alloc _ _
  have hs0 : w0.heap.size = w.heap.size + 3 := by rw [hw0]; simp
  have b2 : Blk w0 (w.heap.size + 1) #[.string ⟨#[]⟩, .int .i64 0, .string ⟨#[]⟩, .string ⟨#[]⟩, .int .i64 0, .int .i64 0, .slice none 0 0] 31 := by rw [hw0]; exact (Blk.newAt _ _ _ (by simp)).alloc _
  have b3 : Blk w0 (w.heap.size + 1 + 1) #[.string d.name, .int .i64 d.op, .string d.a, .string d.b, .int .i64 0, .int .i64 0, .slice none 0 0] 31 := by rw [hw0]; exact Blk.newAt _ _ _ (by simp)
  have hvm : VM w0 S (.agg #[.int .i64 d.value.rows, .int .i64 d.value.cols, .slice a n c]) d.value := ⟨a, n, c, rfl, h.grow hG0, o5, o6⟩
  have Hw0 := Lib.hid hw0; clear hw0
  go_enter Tryd.func7, Tryd.ntmps7
  go_wp2_with fail
  rw [← Hw0.out]
  refine (to_M hvm (by unfold bdM; omega)).mono ?_
  rintro e w1 ⟨v', rfl, ⟨am, nm, cm, rfl, om, xm, fm, rm, km⟩, hG1⟩
  have hs1 := hG1.size
  have B2 := b2.grow hG1
  have B3 := b3.grow hG1
  have p0 := B3.cell 0; have p1 := B3.cell 1; have p2 := B3.cell 2; have p3 := B3.cell 3; have p4 := B3.cell 4; have p5 := B3.cell 5; have p6 := B3.cell 6
  have f4 := B3.free 4; have f5 := B3.free 5; have f6 := B3.free 6
  have q0 := B2.cell 0; have q1 := B2.cell 1; have q2 := B2.cell 2; have q3 := B2.cell 3; have q4 := B2.cell 4; have q5 := B2.cell 5; have q6 := B2.cell 6
  have g0 := B2.free 0; have g1 := B2.free 1; have g2 := B2.free 2; have g3 := B2.free 3; have g4 := B2.free 4; have g5 := B2.free 5; have g6 := B2.free 6
  simp at p0 p1 p2 p3 p4 p5 p6 q0 q1 q2 q3 q4 q5 q6
  go_wp2
  have hBf := ((((((((((B2.other (p := ⟨w.heap.size + 1 + 1, 4, none⟩) (by simp) (.int .i64 d.value.rows)).other (p := ⟨w.heap.size + 1 + 1, 5, none⟩) (by simp) (.int .i64 d.value.cols)).other (p := ⟨w.heap.size + 1 + 1, 6, none⟩) (by simp) (.slice am nm cm)).set 0 (.string d.name)).set 1 (.int .i64 d.op)).set 2 (.string d.a)).set 3 (.string d.b)).set 4 (.int .i64 d.value.rows)).set 5 (.int .i64 d.value.cols)).set 6 (.slice am nm cm))
  have hK : Keep (fun g => g ≠ w.heap.size + 1 + 1 ∧ g ≠ w.heap.size + 1) w1 _ := (((((((((((Keep.refl _ w1).setCell (p := ⟨w.heap.size + 1 + 1, 4, none⟩) (by simp) (.int .i64 d.value.rows)).setCell (p := ⟨w.heap.size + 1 + 1, 5, none⟩) (by simp) (.int .i64 d.value.cols)).setCell (p := ⟨w.heap.size + 1 + 1, 6, none⟩) (by simp) (.slice am nm cm)).setCell (p := ⟨w.heap.size + 1, 0, none⟩) (by simp) (.string d.name)).setCell (p := ⟨w.heap.size + 1, 1, none⟩) (by simp) (.int .i64 d.op)).setCell (p := ⟨w.heap.size + 1, 2, none⟩) (by simp) (.string d.a)).setCell (p := ⟨w.heap.size + 1, 3, none⟩) (by simp) (.string d.b)).setCell (p := ⟨w.heap.size + 1, 4, none⟩) (by simp) (.int .i64 d.value.rows)).setCell (p := ⟨w.heap.size + 1, 5, none⟩) (by simp) (.int .i64 d.value.cols)).setCell (p := ⟨w.heap.size + 1, 6, none⟩) (by simp) (.slice am nm cm))
  have hom := om.keep hK (fun g hg _ => by have := fm g hg; simp only [New] at this; omega)
  refine ret_cell T_def rfl rfl rfl hBf ⟨_, rfl, ⟨am, nm, cm, rfl, hom, xm, fun g hg => ⟨by have := fm g hg; simp only [New] at this; omega, hom.lt hg⟩, o1, o2, o3, o4, o5, o6⟩, (hG0.trans hG1).keep hK (fun i hi => by omega)⟩

set_option maxHeartbeats 2000000 in
set_option maxRecDepth 100000 in
theorem eq_D {S T : Nat → Prop} {u v : Value} {d : Dfn} {w : World} (h : VD w S u d) (h' : VD w T v d) (hb : bdD d ≤ 2097152) : Calls Tryd.prog 9 #[u, v] w fun e w' => e = .returned (.bool true) ∧ Grow w w' := by
  obtain ⟨a, n, c, rfl, h, ho⟩ := h
  obtain ⟨a', n', c', rfl, h', _⟩ := h'
  obtain ⟨o1, o2, o3, o4, o5, o6⟩ := ho
  unfold bdD at hb
  have e1 : (d.op == d.op) = true := by simp
  have e2 : (d.op != d.op) = false := by simp
  have hG0 : Grow w ((w.alloc (.cells #[.string d.name, .int .i64 d.op, .string d.a, .string d.b, .int .i64 d.value.rows, .int .i64 d.value.cols, .slice a n c] 31)).alloc (.cells #[.string d.name, .int .i64 d.op, .string d.a, .string d.b, .int .i64 d.value.rows, .int .i64 d.value.cols, .slice a' n' c'] 31)) := ((Grow.refl w).alloc _ _).alloc _ _
  have hvm : VM _ S (.agg #[.int .i64 d.value.rows, .int .i64 d.value.cols, .slice a n c]) d.value := ⟨a, n, c, rfl, h.grow hG0, o5, o6⟩
  have hvm' : VM _ T (.agg #[.int .i64 d.value.rows, .int .i64 d.value.cols, .slice a' n' c']) d.value := ⟨a', n', c', rfl, h'.grow hG0, o5, o6⟩
  go_enter Tryd.func9, Tryd.ntmps9
  go_wp2_with fail
  refine (eq_M hvm hvm' (by unfold bdM; omega)).mono ?_
  rintro e w1 ⟨rfl, hG1⟩
  go_wp2
  go_ret
  exact ⟨rfl, hG0.trans hG1⟩
end Go.Proofs.YtdnpdfokdibmdaaDoor
