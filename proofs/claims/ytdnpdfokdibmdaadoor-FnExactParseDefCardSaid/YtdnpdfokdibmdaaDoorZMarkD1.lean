/-
  One definition's memory: marked, and read back.
-/
import Derived.Test.YtdnpdfokdibmdaaDoorZDefO
import Derived.Test.YtdnpdfokdibmdaaDoorZInts
namespace Go.Proofs.YtdnpdfokdibmdaaDoor
open Go.RowKit
def mkD (d : Dfn) (k : Nat) : Dfn := ⟨d.name, d.op, d.a, d.b, mkM d.value k⟩
set_option maxHeartbeats 1000000 in
theorem mark_D {F : Nat → Prop} {v : Value} {d : Dfn} {w : World} (k : Nat) (h : OD w F v d) (hb : bdD d + k ≤ 4294967296) : Calls Tryd.prog 12 #[v, .int .i64 k] w fun e w' =>
    e = .returned (.int .i64 ((k + cntD d : Nat) : Int)) ∧ OD w' F v (mkD d k) ∧ Keep (fun g => ¬ F g) w w' := by
  obtain ⟨a, n, c, rfl, h1, h2, h3, ho⟩ := h
  have hl : d.value.cells.length = n := by simpa using h1.len
  subst hl
  unfold bdD at hb
  obtain ⟨w1, hw1⟩ : ∃ w1, w1 = w.alloc (.cells #[.string d.name, .int .i64 d.op, .string d.a, .string d.b, .int .i64 d.value.rows, .int .i64 d.value.cols, .slice a d.value.cells.length c] 31) := ⟨_, rfl⟩
  have hG1 : Grow w w1 := by rw [hw1]; exact (Grow.refl w).alloc _ _
  have hB1 : Blk w1 w.heap.size #[.string d.name, .int .i64 d.op, .string d.a, .string d.b, .int .i64 d.value.rows, .int .i64 d.value.cols, .slice a d.value.cells.length c] 31 := by rw [hw1]; exact Blk.new _ _ _
  obtain ⟨⟨z0, z1, z2, z3, z4, z5, z6⟩, -⟩ := hB1.seven
  have Hw1 := Lib.hid hw1; clear hw1
  go_enter Tryd.func12, Tryd.ntmps12
  go_wp2_with fail
  rw [← Hw1.out]
  have hom : OM w1 F (.agg #[.int .i64 d.value.rows, .int .i64 d.value.cols, .slice a d.value.cells.length c]) d.value := ⟨a, _, c, rfl, h1.grow hG1, h2, h3, ho.2.2.2.2.1, ho.2.2.2.2.2⟩
  refine (mark_M k hom (by unfold bdM; omega)).mono ?_
  rintro e w2 ⟨rfl, ⟨a', n', c', e1, o1, x1, f1, r1, k1⟩, hK⟩
  have e2 : Value.slice a d.value.cells.length c = Value.slice a' n' c' := by simpa [mkM] using e1
  have hv : OD w2 F (.agg #[.string d.name, .int .i64 d.op, .string d.a, .string d.b, .int .i64 d.value.rows, .int .i64 d.value.cols, .slice a d.value.cells.length c]) (mkD d k) := ⟨a', n', c', by rw [e2]; rfl, o1, x1, f1, ho⟩
  clear e1 e2 o1 x1 f1
  go_wp2
  go_ret
  exact ⟨rfl, hv, (hG1.mono fun _ _ _ => trivial).trans hK⟩
set_option maxHeartbeats 1000000 in
theorem held_D {S : Nat → Prop} {v : Value} {d : Dfn} {w : World} (k : Nat) (h : VD w S v (mkD d k)) (hb : bdD d + k ≤ 4294967296) : Calls Tryd.prog 13 #[v, .int .i64 k] w fun e w' =>
    e = .returned (.int .i64 ((k + cntD d : Nat) : Int)) ∧ Grow w w' := by
  obtain ⟨a, n, c, rfl, h1, ho⟩ := h
  unfold bdD at hb
  obtain ⟨w1, hw1⟩ : ∃ w1, w1 = w.alloc (.cells #[.string (mkD d k).name, .int .i64 (mkD d k).op, .string (mkD d k).a, .string (mkD d k).b, .int .i64 (mkD d k).value.rows, .int .i64 (mkD d k).value.cols, .slice a n c] 31) := ⟨_, rfl⟩
  have hG1 : Grow w w1 := by rw [hw1]; exact (Grow.refl w).alloc _ _
  have hB1 : Blk w1 w.heap.size #[.string (mkD d k).name, .int .i64 (mkD d k).op, .string (mkD d k).a, .string (mkD d k).b, .int .i64 (mkD d k).value.rows, .int .i64 (mkD d k).value.cols, .slice a n c] 31 := by rw [hw1]; exact Blk.new _ _ _
  obtain ⟨⟨z0, z1, z2, z3, z4, z5, z6⟩, -⟩ := hB1.seven
  have Hw1 := Lib.hid hw1; clear hw1
  go_enter Tryd.func13, Tryd.ntmps13
  go_wp2_with fail
  rw [← Hw1.out]
  have hvm : VM w1 S (.agg #[.int .i64 (mkD d k).value.rows, .int .i64 (mkD d k).value.cols, .slice a n c]) (mkM d.value k) := ⟨a, n, c, rfl, h1.grow hG1, ho.2.2.2.2.1, ho.2.2.2.2.2⟩
  refine (held_M k hvm (by unfold bdM; omega)).mono ?_
  rintro e w2 ⟨rfl, hG2⟩
  have hnn : ¬ ((k + cntM d.value : Nat) : Int) < 0 := by omega
  go_wp2
  go_ret
  exact ⟨rfl, hG1.trans hG2⟩
end Go.Proofs.YtdnpdfokdibmdaaDoor
