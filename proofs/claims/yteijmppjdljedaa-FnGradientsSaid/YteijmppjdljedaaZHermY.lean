/-
  The program's work: a matrix and the operations done to it.
-/
import Derived.Test.YteijmppjdljedaaZHermS
namespace Go.Proofs.Yteijmppjdljedaa
open Go.RowKit

theorem addr_add2 (g o j : Nat) : (⟨g, o, none⟩ : Addr).add j = ⟨g, o + j, none⟩ := by unfold Addr.add; split <;> simp_all
theorem StT.loadAt {P : Program} {ty : TypeId} {cs : List Value} (h : StT P ty cs.length) {w : World} {g o : Nat} (hc : ∀ j v, cs[j]? = some v → w.cell? ⟨g, o + j, none⟩ = some v) : (loadVar ty ⟨g, o, none⟩).run P w = .ok (.agg cs.toArray) w := by
  obtain ⟨fs, hu, hi⟩ := h
  have hl : (loadCells ⟨g, o, none⟩ cs.length).run P w = .ok cs.toArray w :=
    run_loadCells_list (P := P) w ⟨g, o, none⟩ cs (fun j v hv => by rw [addr_add2]; exact hc j v hv)
  cases hq : P.info? ty with
  | none => simp [hq] at hi
  | some i =>
    have hs : i.size = cs.length := by simpa [hq] using hi
    have hagg : (isAgg ty).run P w = .ok true w := by
      unfold isAgg
      rw [Sem.run_bind, run_underlying hu w]
      simp
    simp [loadVar, Sem.run_bind, hagg, sizeOf, typeInfo, hq, hs, hl]
section
variable {P : Program} {C : World → Prop} {o : Oper} {a : Act} {K : Act → Prop}
theorem quiet_load3At {ty : TypeId} {x : Operand} {g f : Nat} {u v z : Value} (hty : StT P ty 3) (ho : o.op = .load ty x) (hx : a.eval x = .pointer (some ⟨g, f, none⟩))
    (hv : ∀ w', C w' → w'.cell? ⟨g, f, none⟩ = some u ∧ w'.cell? ⟨g, f + 1, none⟩ = some v ∧ w'.cell? ⟨g, f + 2, none⟩ = some z) (hk : K (a.put o.dst (.agg #[u, v, z]))) : o.quiet P a C K := by
  refine ⟨.agg #[u, v, z], fun w hw => ?_, hk⟩
  obtain ⟨h0, h1, h2⟩ := hv w hw
  have h := StT.loadAt (cs := [u, v, z]) hty (w := w) (g := g) (o := f) (fun j c hj => by
    match j, hj with
    | 0, hj => simp at hj; subst hj; exact h0
    | 1, hj => simp at hj; subst hj; exact h1
    | 2, hj => simp at hj; subst hj; exact h2)
  unfold Oper.quietAt execOp
  simp [ho, hx, Instr.loadAt, Instr.sureAddr, h, Oper.quietUpon]
end
theorem T_rowop : StT Try.prog 83 4 := ⟨_, Try.underlying83, by kernel_rfl⟩
/-- A variable of ten cells: the work. -/
def WkC (R C : Nat) (aa au ar : Option Addr) (ca cu cr : Nat) (bad : Bool) : Array Value := #[.int .i64 R, .int .i64 C, .slice aa (R * C) ca, .int .i64 R, .int .i64 R, .slice au (R * R) cu, .int .i64 C, .int .i64 C, .slice ar (C * C) cr, .bool bad]
structure WkF (w : World) (g R C : Nat) (aa au : Option Addr) (ca cu : Nat) (bad : Bool) : Prop where
  c0 : w.cell? ⟨g, 0, none⟩ = some (.int .i64 R)
  c1 : w.cell? ⟨g, 1, none⟩ = some (.int .i64 C)
  c2 : w.cell? ⟨g, 2, none⟩ = some (.slice aa (R * C) ca)
  c3 : w.cell? ⟨g, 3, none⟩ = some (.int .i64 R)
  c4 : w.cell? ⟨g, 4, none⟩ = some (.int .i64 R)
  c5 : w.cell? ⟨g, 5, none⟩ = some (.slice au (R * R) cu)
  c9 : w.cell? ⟨g, 9, none⟩ = some (.bool bad)
  f9 : w.frozen? ⟨g, 9, none⟩ = false
end Go.Proofs.Yteijmppjdljedaa

namespace Go.Proofs.Yteijmppjdljedaa
open Go.RowKit

theorem get_cell {m : List Int} {k : Nat} (h : k < m.length) : m[k]? = some (m.getD k 0) := by simp [List.getD, List.getElem?_eq_getElem h]
/-- What adding leaves: the state and whether it is spoilt. -/
def AddTo (C R i p : Nat) (t : Int) (s : HS) (b : Bool) (s' : HS) : Prop := (b = false ∧ add2 C R i p t s = some s') ∨ (b = true ∧ add2 C R i p t s = none)
end Go.Proofs.Yteijmppjdljedaa

namespace Go.Proofs.Yteijmppjdljedaa
open Go.RowKit

end Go.Proofs.Yteijmppjdljedaa
