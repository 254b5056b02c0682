/-
  Appends of any kind as one operation; rows of nothing; rows of different types lie apart. No condition.
-/
import Derived.Test.YthlncohllbmapaaApp
namespace Go.Proofs.Ythlncohllbmapaa
open Go.RowKit

/-- Any append, as one operation. -/
theorem op_app {P : Program} {o : Oper} {a : Act} {w : World} {K : Act → World → Prop} {Q : Exit → Act → World → Prop} {s x : Operand} {t : TypeId} (ho : o.op = .call { callee := .builtin .append, args := #[s, x], argTypes := #[t, t] }) {e : TypeId} {z : Value} {sz bytes : Nat} (hT : SlT P t e z sz bytes)
    {S : Nat → Prop} {p : Option Addr} {n cap : Nat} {cs : List Value} (hs : a.eval s = .slice p n cap) (hown : Own w e sz p n cap cs) {b : Option Addr} {m c : Nat} {news : List Value} (hx : a.eval x = .slice b m c) (hsrc : Row w S sz b m c news) (h1 : ∀ u ∈ news, u.oneCell' = true)
    (hbytes : (n + m) * bytes ≤ 140737488355328) (h63 : n + m ≤ maxLen)
    (h : ∀ a' cap' w', Apped w w' e sz p a' (n + m) cap' (cs ++ news) → K (a.put o.dst (.slice a' (n + m) cap')) w') : o.wp P a w K Q := by
  obtain ⟨ht, ⟨i, hi, hz, hsz, hby⟩, hzs⟩ := hT
  obtain ⟨a', cap', w', hr, hap⟩ := run_app (P := P) w t o.type e i z sz bytes ht hi hz hsz hby hzs hown hsrc h1 hbytes h63
  unfold Oper.wp execOp
  simp only [ho, resolve, invoke, builtin, Sem.run_bind, Sem.run_pure, Result.andThen_ok, List.map_toArray, List.map_cons, List.map_nil, hs, hx, hr]
  exact h _ _ _ hap

theorem Row.emptyAt {w : World} {S : Nat → Prop} {sz g : Nat} : Row w S sz (some ⟨g, 0, none⟩) 0 0 [] := ⟨by simp, Nat.le_refl _, by unfold maxLen; omega, (fun h => by cases h), fun h => (h rfl).elim⟩
theorem Own.ne_own {w : World} {e1 e2 : TypeId} {sz1 sz2 : Nat} {a b : Option Addr} {n1 n2 c1 c2 : Nat} {cs ds : List Value} (h1 : Own w e1 sz1 a n1 c1 cs) (h2 : Own w e2 sz2 b n2 c2 ds) (hne : e1 ≠ e2) : ∀ g, blk a = some g → blk b ≠ some g := fun g ha hb => by
  cases a with
  | none => simp at ha
  | some p =>
    cases b with
    | none => simp at hb
    | some q =>
      simp at ha hb
      obtain ⟨_, cur, k1, _⟩ := h1.block p rfl
      obtain ⟨_, cur', k2, _⟩ := h2.block q rfl
      rw [ha] at k1
      rw [hb] at k2
      have := k1.symm.trans k2
      simp only [Option.some.injEq, Obj.cells.injEq] at this
      exact hne this.2.1
theorem par_app_nil {P : Program} {o : Oper} {a : Act} {w : World} {K : Act → World → Prop} {Q : Exit → Act → World → Prop} {s x : Operand} {t : TypeId} (ho : o.op = .call { callee := .builtin .append, args := #[s, x], argTypes := #[t, t] }) {e : TypeId} {z : Value} {sz bytes : Nat} (hT : SlT P t e z sz bytes)
    {p b : Option Addr} {c : Nat} (hs : a.eval s = .slice p 0 0) (hx : a.eval x = .slice b 0 c) (h : K (a.put o.dst (.slice p 0 0)) w) : o.wp P a w K Q := by
  obtain ⟨ht, ⟨i, hi, hz, hsz, hby⟩, hzs⟩ := hT
  have hr : (Builtin.append_ #[t, t] o.type #[.slice p 0 0, .slice b 0 c]).run P w = .ok (.slice p 0 0) w := by
    cases p <;> cases b <;> simp [Builtin.append_, run_underlying ht, sizeOf, typeInfo, hi, Builtin.lenOf, Builtin.firstCells, storeCells, loadCells, loadCellsFrom]
  unfold Oper.wp execOp
  simp only [ho, resolve, invoke, builtin, Sem.run_bind, Sem.run_pure, Result.andThen_ok, List.map_toArray, List.map_cons, List.map_nil, hs, hx, hr]
  exact h
end Go.Proofs.Ythlncohllbmapaa
