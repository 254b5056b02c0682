/-
  Arguments of type Def and []Def, opened.
-/
import Derived.Test.YtdnpdfokdibmdaaDoorZDefK
import Derived.Test.YtdnpdfokdibmdaaDoorZInts
namespace Go.Proofs.YtdnpdfokdibmdaaDoor
open Go.ChangeShapes Go.WideShapes Go.ChangeAt Go.RowKit
theorem list5 {α : Type} {cs : List α} (h : cs.length = 5) : ∃ c0 c1 c2 c3 c4, cs = [c0, c1, c2, c3, c4] := by
  match cs, h with
  | [c0, c1, c2, c3, c4], _ => exact ⟨c0, c1, c2, c3, c4, rfl⟩
section
variable {H : Type} {enc : TypeId × Value → H} {w : World}
theorem cells_def : Tryd.prog.cellsOf 26 = 7 := by kernel_rfl
theorem cells_str : Tryd.prog.cellsOf 9 = 1 := by kernel_rfl
theorem def_cs_g {P : Program} {t tm : TypeId} {f0 f1 f2 f3 f4 : Field} {fuel : Nat} {cs : List Value} {x : DataW H × List MemPlace} (hu : P.underlying t = some (.struct #[f0, f1, f2, f3, f4])) (hc : P.cellsOf t = 7)
    (t0 : P.underlying f0.type = some .string) (t1 : P.underlying f1.type = some (.int .i64)) (t2 : P.underlying f2.type = some .string) (t3 : P.underlying f3.type = some .string) (t4 : f4.type = tm)
    (hm : ∀ {fuel : Nat} {cs : List Value} {x : DataW H × List MemPlace}, DataW.trod enc P w 0 (fun _ => true) true fuel tm cs = some x → ∃ r k a n c xs, cs = [.int .i64 r, .int .i64 k, .slice a n c] ∧ RdI w (fun _ => True) a n c xs ∧ I64 r ∧ I64 k)
    (o0 : f0.offset = 0) (o1 : f1.offset = 1) (o2 : f2.offset = 2) (o3 : f3.offset = 3) (o4 : f4.offset = 4) (c0 : P.cellsOf f0.type = 1) (c1 : P.cellsOf f1.type = 1) (c2 : P.cellsOf f2.type = 1) (c3 : P.cellsOf f3.type = 1) (c4 : P.cellsOf f4.type = 3)
    (h : DataW.trod enc P w 0 (fun _ => true) true fuel t cs = some x) :
    ∃ d a n c, cs = dcell d (.slice a n c) ∧ RdI w (fun _ => True) a n c d.value.cells ∧ DOk d := by
  obtain ⟨xs, n, _, rfl, hl, hlen, hf⟩ := DataW.trod_struct hu h
  obtain ⟨q0, q1, q2, q3, q4, q5, q6, rfl⟩ := list7 (hl.trans hc)
  obtain ⟨y0, y1, y2, y3, y4, rfl⟩ := list5 hlen
  have h0 := hf 0 f0 rfl
  have h1 := hf 1 f1 rfl
  have h2 := hf 2 f2 rfl
  have h3 := hf 3 f3 rfl
  have h4 := hf 4 f4 rfl
  rw [o0, c0] at h0
  rw [o1, c1] at h1
  rw [o2, c2] at h2
  rw [o3, c3] at h3
  rw [o4, c4, t4] at h4
  obtain ⟨s0, e0, _, w0⟩ := DataW.trod_string t0 h0
  obtain ⟨r1, e1, _, w1⟩ := DataW.trod_int t1 h1
  obtain ⟨s2, e2, _, w2⟩ := DataW.trod_string t2 h2
  obtain ⟨s3, e3, _, w3⟩ := DataW.trod_string t3 h3
  obtain ⟨r, k, a, n, c, xs, e4, hr, w4, w5⟩ := hm h4
  simp at e0 e1 e2 e3 e4
  obtain ⟨rfl, rfl, rfl⟩ := e4
  subst e0; subst e1; subst e2; subst e3
  exact ⟨⟨s0, r1, s2, s3, ⟨r, k, xs⟩⟩, a, n, c, rfl, hr, w0, wf_I64 w1, w2, w3, w4, w5⟩
set_option maxRecDepth 100000 in
theorem def_cs {fuel : Nat} {cs : List Value} {x : DataW H × List MemPlace} (h : DataW.trod enc Tryd.prog w 0 (fun _ => true) true fuel 26 cs = some x) :
    ∃ d a n c, cs = dcell d (.slice a n c) ∧ RdI w (fun _ => True) a n c d.value.cells ∧ DOk d :=
  def_cs_g Tryd.underlying26 cells_def Tryd.underlying9 Tryd.underlying3 Tryd.underlying9 Tryd.underlying9 rfl mat_cs rfl rfl rfl rfl rfl cells_str cells_int cells_str cells_str cells_mat h
set_option maxRecDepth 100000 in
theorem openDx {r : Reach} {b0 : Nat} {v : Value} {d : DataW H} {ps : List MemPlace} (hval : Value.okWide Tryd.prog w r b0 26 v) (h : DataW.Trod enc Tryd.prog w 0 (fun _ => true) true 26 v d ps) :
    ∃ m, VD w (fun _ => True) v m := by
  obtain ⟨cs, rfl, hsz⟩ := okWide_struct Tryd.underlying26 hval
  obtain ⟨fuel, hf⟩ := h
  obtain ⟨m, a, n, c, hcs, hr, ho⟩ := def_cs hf
  have : cs = (dcell m (.slice a n c)).toArray := by
    simp only [Value.cells] at hcs
    rw [← hcs]
  subst this
  exact ⟨m, a, n, c, rfl, hr, ho⟩
theorem cells?_at {a : Addr} {cs : List Value} : ∀ {k : Nat}, w.cells? 0 a k = some cs → cs.length = k ∧ ∀ j c, cs[j]? = some c → w.cell? (a.add j) = some c := by
  intro k h
  simp only [World.cells?, Nat.zero_le, if_true] at h
  have hl := mapM_some_length h
  refine ⟨by simpa using hl, fun j c hj => ?_⟩
  have hjl : j < k := by have := (List.getElem?_eq_some_iff.1 hj).1; simp at hl; omega
  have := mapM_some_get h j j (by simp [hjl])
  rw [hj] at this
  exact this
theorem addr_add2 (a : Addr) (i j : Nat) : (a.add i).add j = a.add (i + j) := by
  cases a; rename_i b o s
  by_cases hi : i = 0 <;> by_cases hj : j = 0 <;> cases s <;> simp [Addr.add, hi, hj, Nat.add_assoc]
theorem choose3 {α β : Type} [Inhabited α] [Inhabited β] {n : Nat} {p : Nat → α → β → Prop} (h : ∀ i, i < n → ∃ a b, p i a b) : ∃ f : Nat → α × β, ∀ i, i < n → p i (f i).1 (f i).2 := choose2 h
instance : Inhabited Dfn := ⟨⟨⟨#[]⟩, 0, ⟨#[]⟩, ⟨#[]⟩, ⟨0, 0, []⟩⟩⟩
theorem dAll_map (f : Nat → Value × Dfn) : ∀ k, (dAll ((List.range k).map fun i => (f i).2) ((List.range k).map fun i => (f i).1)).length = k * 7 := fun k => by rw [dAll_len (by simp)]; simp
end
end Go.Proofs.YtdnpdfokdibmdaaDoor
