/-
  Arguments of type Matrix, opened.
-/
import Derived.Test.YtlpkcdgkkjmagaaMat
import Derived.Test.YtlpkcdgkkjmagaaClose
import Derived.WideShapes
namespace Go.Proofs.Ytlpkcdgkkjmagaa
open Go.ChangeShapes Go.WideShapes Go.ChangeAt Go.RowKit
theorem list3 {α : Type} {cs : List α} (h : cs.length = 3) : ∃ c0 c1 c2, cs = [c0, c1, c2] := by
  match cs, h with
  | [c0, c1, c2], _ => exact ⟨c0, c1, c2, rfl⟩
theorem list7 {α : Type} {cs : List α} (h : cs.length = 7) : ∃ c0 c1 c2 c3 c4 c5 c6, cs = [c0, c1, c2, c3, c4, c5, c6] := by
  match cs, h with
  | [c0, c1, c2, c3, c4, c5, c6], _ => exact ⟨c0, c1, c2, c3, c4, c5, c6, rfl⟩
section
variable {H : Type} {enc : TypeId × Value → H} {w : World}
theorem cells_sl : Try.prog.cellsOf 29 = 1 := by kernel_rfl
theorem cells_mat : Try.prog.cellsOf 31 = 3 := by kernel_rfl
theorem mat_cs_g {P : Program} {t e : TypeId} {f0 f1 f2 : Field} {fuel : Nat} {cs : List Value} {x : DataW H × List MemPlace} (hu : P.underlying t = some (.struct #[f0, f1, f2])) (hc : P.cellsOf t = 3)
    (t0 : P.underlying f0.type = some (.int .i64)) (t1 : P.underlying f1.type = some (.int .i64)) (t2 : P.underlying f2.type = some (.slice e)) (te : P.underlying e = some (.int .i64)) (ce : P.cellsOf e = 1)
    (o0 : f0.offset = 0) (o1 : f1.offset = 1) (o2 : f2.offset = 2) (c0 : P.cellsOf f0.type = 1) (c1 : P.cellsOf f1.type = 1) (c2 : P.cellsOf f2.type = 1)
    (h : DataW.trod enc P w 0 (fun _ => true) true fuel t cs = some x) :
    ∃ r k a n c xs, cs = [.int .i64 r, .int .i64 k, .slice a n c] ∧ RdI w (fun _ => True) a n c xs ∧ I64 r ∧ I64 k := by
  obtain ⟨xs, n, _, rfl, hl, hlen, hf⟩ := DataW.trod_struct hu h
  obtain ⟨q0, q1, q2, rfl⟩ := list3 (hl.trans hc)
  obtain ⟨y0, y1, y2, rfl⟩ := list3 hlen
  have h0 := hf 0 f0 rfl
  have h1 := hf 1 f1 rfl
  have h2 := hf 2 f2 rfl
  rw [o0, c0] at h0
  rw [o1, c1] at h1
  rw [o2, c2] at h2
  obtain ⟨r, e0, _, w0⟩ := DataW.trod_int t0 h0
  obtain ⟨k, e1, _, w1⟩ := DataW.trod_int t1 h1
  obtain ⟨a, m, c, ys, e2, hr⟩ := openI_cs t2 te ce h2
  simp at e0 e1 e2
  subst e0; subst e1; subst e2
  exact ⟨r, k, a, m, c, ys, rfl, hr, wf_I64 w0, wf_I64 w1⟩
set_option maxRecDepth 100000 in
theorem mat_cs {fuel : Nat} {cs : List Value} {x : DataW H × List MemPlace} (h : DataW.trod enc Try.prog w 0 (fun _ => true) true fuel 31 cs = some x) :
    ∃ r k a n c xs, cs = [.int .i64 r, .int .i64 k, .slice a n c] ∧ RdI w (fun _ => True) a n c xs ∧ I64 r ∧ I64 k :=
  mat_cs_g Try.underlying31 cells_mat Try.underlying3 Try.underlying3 Try.underlying29 Try.underlying3 cells_int rfl rfl rfl cells_int cells_int cells_sl h
theorem openMx {r : Reach} {b0 : Nat} {v : Value} {d : DataW H} {ps : List MemPlace} (hval : Value.okWide Try.prog w r b0 31 v) (h : DataW.Trod enc Try.prog w 0 (fun _ => true) true 31 v d ps) :
    ∃ m, VM w (fun _ => True) v m := by
  obtain ⟨cs, rfl, hsz⟩ := okWide_struct Try.underlying31 hval
  obtain ⟨fuel, hf⟩ := h
  obtain ⟨r, k, a, n, c, xs, hcs, hr, h1, h2⟩ := mat_cs hf
  have : cs = #[.int .i64 r, .int .i64 k, .slice a n c] := by
    simp only [Value.cells] at hcs
    exact Array.toList_inj.1 hcs
  subst this
  exact ⟨⟨r, k, xs⟩, a, n, c, rfl, hr, h1, h2⟩
end
end Go.Proofs.Ytlpkcdgkkjmagaa
