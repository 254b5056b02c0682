/-
  ComposeMaps: the program's and the reference's.
-/
import Derived.Test.YtoiblknchcoecaaGreatZIsMat
set_option maxHeartbeats 8000000
set_option maxRecDepth 100000
namespace Go.Proofs.YtoiblknchcoecaaGreat
open Go.RowKit
theorem Own.ne_blk' {w : World} {e t : TypeId} {sz : Nat} {a : Option Addr} {n cap g : Nat} {cs : List Value} {ds : Array Value} (ho : Own w e sz a n cap cs) (hb : Blk w g ds t) (hne : e ≠ t) : blk a ≠ some g := fun h => by
 cases a with
 | none => simp at h
 | some p =>
  simp at h
  obtain ⟨_, cur, h2, _⟩ := ho.block p rfl
  rw [h] at h2
  have := h2.symm.trans hb
  simp only [Option.some.injEq, Obj.cells.injEq] at this
  exact hne this.2.1
theorem implCompose_v {S T : Nat → Prop} {u v : Value} {A B : Mat} {w : World} (h : VM w S u A) (hb : bdM A ≤ 1048576) (h' : VM w T v B) (hb' : bdM B ≤ 1048576) :
  Calls Tryz.prog 17 #[u, v] w fun e w' => ∃ r, e = .returned (.tuple #[r, .bool (mulOk A B)]) ∧ OM w' (New w w') r (mulB A B) ∧ Grow w w' := by
 obtain ⟨aa, na, ca, rfl, hA, hAr, hAc⟩ := h
 obtain ⟨ab, nb, cb, rfl, hB, hBr, hBc⟩ := h'
 have vA : VM w S (.agg #[.int .i64 A.rows, .int .i64 A.cols, .slice aa na ca]) A := ⟨aa, na, ca, rfl, hA, hAr, hAc⟩
 have vB : VM w T (.agg #[.int .i64 B.rows, .int .i64 B.cols, .slice ab nb cb]) B := ⟨ab, nb, cb, rfl, hB, hBr, hBc⟩
 obtain ⟨w3, hw3⟩ : ∃ w3, w3 = (((w.alloc (.cells #[.int .i64 A.rows, .int .i64 A.cols, .slice aa na ca] 26)).alloc (.cells #[.int .i64 B.rows, .int .i64 B.cols, .slice ab nb cb] 26)).alloc (.cells #[.int .i64 0, .int .i64 0, .slice none 0 0] 26)) := ⟨_, rfl⟩
 have hG3 : Grow w w3 := by rw [hw3]; exact (((Grow.refl w).alloc _ _).alloc _ _).alloc _ _
 have hs3 : w3.heap.size = w.heap.size + 3 := by rw [hw3]; simp
 have bZ : Blk w3 (w.heap.size + 2) #[.int .i64 0, .int .i64 0, .slice none 0 0] 26 := by rw [hw3]; simpa using Blk.new ((w.alloc (.cells #[.int .i64 A.rows, .int .i64 A.cols, .slice aa na ca] 26)).alloc (.cells #[.int .i64 B.rows, .int .i64 B.cols, .slice ab nb cb] 26)) #[.int .i64 0, .int .i64 0, .slice none 0 0] 26
 have Hw3 := Lib.hid hw3; clear hw3
 go_enter Tryz.func17, Tryz.ntmps17
 go_wp2_with fail
 rw [← Hw3.out]
 refine (implMul_c (vA.grow hG3) (vB.grow hG3) (by omega) (by omega)).mono ?_
 rintro e w4 ⟨r, rfl, ⟨am, nm, cm, rfl, om, xm, fm, rm, km⟩, hG4⟩
 have bZ4 := bZ.grow hG4
 obtain ⟨⟨z0, z1, z2⟩, g0, g1, g2⟩ := bZ4.three
 have hne := om.ne_blk' bZ4 (by decide)
 go_wp2_with fail
 have hK : Keep (fun q => q ≠ w.heap.size + 2) w4 (((w4.setCell ⟨w.heap.size + 2, 0, none⟩ (.int .i64 (mulB A B).rows)).setCell ⟨w.heap.size + 2, 1, none⟩ (.int .i64 (mulB A B).cols)).setCell ⟨w.heap.size + 2, 2, none⟩ (.slice am nm cm)) :=
  (((Keep.refl _ w4).setCell (fun _ e => e rfl) _).setCell (fun _ e => e rfl) _).setCell (fun _ e => e rfl) _
 have ho := om.keep hK fun g hg _ e => hne (e ▸ hg)
 refine ret_cell_tmp T_mat rfl rfl rfl (((bZ4.set 0 _).set 1 _).set 2 _) ⟨_, rfl, ⟨am, nm, cm, rfl, ho, xm, fun g hg => ⟨?_, ho.lt hg⟩, rm, km⟩, (hG3.trans hG4).keep hK fun q hq => by omega⟩
 have := (fm g hg).1
 omega
end Go.Proofs.YtoiblknchcoecaaGreat
