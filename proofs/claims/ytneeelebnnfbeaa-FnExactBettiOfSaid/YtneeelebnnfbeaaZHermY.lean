/-
  The program's work: a matrix and the operations done to it.
-/
import Derived.Test.YtneeelebnnfbeaaZHermS
set_option maxHeartbeats 8000000
set_option maxRecDepth 100000
namespace Go.Proofs.Ytneeelebnnfbeaa
open Go.RowKit
theorem addr_add2 (g o j : Nat) : (⟨g, o, none⟩ : Addr).add j = ⟨g, o + j, none⟩ := by unfold Addr.add; split <;> simp_all
theorem StT.loadAt {P : Program} {ty : TypeId} {cs : List Value} (h : StT P ty cs.length) {w : World} {g o : Nat} (hc : ∀ j v, cs[j]? = some v → w.cell? ⟨g, o + j, none⟩ = some v) : (loadVar ty ⟨g, o, none⟩).run P w = .ok (.agg cs.toArray) w := by
 obtain ⟨fs, hu, hi⟩ := h
 have hl : (loadCells ⟨g, o, none⟩ cs.length).run P w = .ok cs.toArray w :=
  run_loadCells_list (P := P) w ⟨g, o, none⟩ cs (fun j v hv => by rw [addr_add2]; exact hc j v hv)
 cases hq : P.info? ty with
 | none => simp [hq] at hi
 | some i =>
  have hs : i.size = cs.length := by simpa [hq] using hi
  have hagg : (isAgg ty).run P w = .ok true w := by
   unfold isAgg
   rw [Sem.run_bind, run_underlying hu w]
   simp
  simp [loadVar, Sem.run_bind, hagg, sizeOf, typeInfo, hq, hs, hl]
section
variable {P : Program} {C : World → Prop} {o : Oper} {a : Act} {K : Act → Prop}
end
structure WkF (w : World) (g R C : Nat) (aa au : Option Addr) (ca cu : Nat) (bad : Bool) : Prop where
 c0 : w.cell? ⟨g, 0, none⟩ = some (.int .i64 R)
 c1 : w.cell? ⟨g, 1, none⟩ = some (.int .i64 C)
 c2 : w.cell? ⟨g, 2, none⟩ = some (.slice aa (R * C) ca)
 c3 : w.cell? ⟨g, 3, none⟩ = some (.int .i64 R)
 c4 : w.cell? ⟨g, 4, none⟩ = some (.int .i64 R)
 c5 : w.cell? ⟨g, 5, none⟩ = some (.slice au (R * R) cu)
 c9 : w.cell? ⟨g, 9, none⟩ = some (.bool bad)
 f9 : w.frozen? ⟨g, 9, none⟩ = false
end Go.Proofs.Ytneeelebnnfbeaa

namespace Go.Proofs.Ytneeelebnnfbeaa
open Go.RowKit
theorem get_cell {m : List Int} {k : Nat} (h : k < m.length) : m[k]? = some (m.getD k 0) := by simp [List.getD, List.getElem?_eq_getElem h]
end Go.Proofs.Ytneeelebnnfbeaa

namespace Go.Proofs.Ytneeelebnnfbeaa
open Go.RowKit
end Go.Proofs.Ytneeelebnnfbeaa
