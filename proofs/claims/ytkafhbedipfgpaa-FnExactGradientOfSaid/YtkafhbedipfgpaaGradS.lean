/-
  GradientOf: the reference's walk.
-/
import Derived.Test.YtkafhbedipfgpaaGradJ
namespace Go.Proofs.Ytkafhbedipfgpaa
open Go.RowKit

def uRow (l : List (List Int)) (ar : List Arw) : List Value := l.map fun x => .bool (inArB ar x)
@[simp] theorem uRow_len (l : List (List Int)) (ar : List Arw) : (uRow l ar).length = l.length := by simp [uRow]
theorem uRow_at {l : List (List Int)} {ar : List Arw} {i : Nat} {s : List Int} (h : l[i]? = some s) : (uRow l ar)[i]? = some (.bool (inArB ar s)) := by simp [uRow, h]
theorem uRow_nil (l : List (List Int)) : uRow l [] = List.replicate l.length (.bool false) := by
  unfold uRow
  rw [List.eq_replicate_iff]
  refine ⟨by simp, fun b hb => ?_⟩
  obtain ⟨x, _, rfl⟩ := List.mem_map.1 hb
  rfl
theorem uRow_add {l : List (List Int)} {ar : List Arw} {i j : Nat} {s t : List Int} (hn : l.Nodup) (hs : l[i]? = some s) (ht : l[j]? = some t) : ((uRow l ar).set i (.bool true)).set j (.bool true) = uRow l (ar ++ [(s, t)]) := by
  refine List.ext_getElem? fun k => ?_
  by_cases hk : k < l.length
  · have hx : l[k]? = some l[k] := List.getElem?_eq_getElem hk
    rw [uRow_at hx, inArB_app, nodup_same hn hs hx, nodup_same hn ht hx]
    by_cases e2 : j = k
    · subst e2
      rw [List.getElem?_set_self (by simpa using hk)]; simp
    · rw [List.getElem?_set_ne e2]
      by_cases e1 : i = k
      · subst e1
        rw [List.getElem?_set_self (by simpa using hk)]; simp
      · rw [List.getElem?_set_ne e1, uRow_at hx]; simp [e1, e2]
  · rw [List.getElem?_eq_none (by simp; omega), List.getElem?_eq_none (by simp; omega)]
theorem Own.ne_own {w : World} {e1 e2 : TypeId} {sz1 sz2 : Nat} {a b : Option Addr} {n1 n2 c1 c2 : Nat} {cs ds : List Value} (h1 : Own w e1 sz1 a n1 c1 cs) (h2 : Own w e2 sz2 b n2 c2 ds) (hne : e1 ≠ e2) : ∀ g, blk a = some g → blk b ≠ some g := fun g ha hb => by
  cases a with
  | none => simp at ha
  | some p =>
    cases b with
    | none => simp at hb
    | some q =>
      simp at ha hb
      obtain ⟨_, cur, k1, _⟩ := h1.block p rfl
      obtain ⟨_, cur', k2, _⟩ := h2.block q rfl
      rw [ha] at k1
      rw [hb] at k2
      have := k1.symm.trans k2
      simp only [Option.some.injEq, Obj.cells.injEq] at this
      exact hne this.2.1
theorem par_app_nil {P : Program} {o : Oper} {a : Act} {w : World} {K : Act → World → Prop} {Q : Exit → Act → World → Prop} {s x : Operand} {t : TypeId} (ho : o.op = .call { callee := .builtin .append, args := #[s, x], argTypes := #[t, t] }) {e : TypeId} {z : Value} {sz bytes : Nat} (hT : SlT P t e z sz bytes)
    {p b : Option Addr} {c : Nat} (hs : a.eval s = .slice p 0 0) (hx : a.eval x = .slice b 0 c) (h : K (a.put o.dst (.slice p 0 0)) w) : o.wp P a w K Q := by
  obtain ⟨ht, ⟨i, hi, hz, hsz, hby⟩, hzs⟩ := hT
  have hr : (Builtin.append_ #[t, t] o.type #[.slice p 0 0, .slice b 0 c]).run P w = .ok (.slice p 0 0) w := by
    cases p <;> cases b <;> simp [Builtin.append_, run_underlying ht, sizeOf, typeInfo, hi, Builtin.lenOf, Builtin.firstCells, storeCells, loadCells, loadCellsFrom]
  unfold Oper.wp execOp
  simp only [ho, resolve, invoke, builtin, Sem.run_bind, Sem.run_pure, Result.andThen_ok, List.map_toArray, List.map_cons, List.map_nil, hs, hx, hr]
  exact h

def GsPost (z m : Nat) (vs : List Value) (x y : List Int) : Nat → Value → World → Prop
  | 0, v, w => ∃ g, v = .slice (some ⟨g, 0, none⟩) 0 0 ∧ z ≤ g ∧ Own w 79 2 (some ⟨g, 0, none⟩) 0 0 []
  | 2, v, w => ∃ a c, v = .slice a m c ∧ (∀ g, blk a = some g → z ≤ g) ∧ Own w 79 2 a m c vs
  | 3, v, _ => ∃ g, v = .slice (some ⟨g, 0, none⟩) 0 0
  | 9, v, _ => ∃ g, v = .slice (some ⟨g, 0, none⟩) 0 0
  | 8, v, w => ∃ g c, v = .slice (some ⟨g, 0, none⟩) x.length c ∧ z ≤ g ∧ Own w 3 1 (some ⟨g, 0, none⟩) x.length c (ints x)
  | 14, v, w => ∃ g c, v = .slice (some ⟨g, 0, none⟩) y.length c ∧ z ≤ g ∧ Own w 3 1 (some ⟨g, 0, none⟩) y.length c (ints y)
  | _, _, _ => True
theorem GsPost.stays {z m : Nat} {vs : List Value} {x y : List Int} : ∀ i v w w', Grow w w' → GsPost z m vs x y i v w → GsPost z m vs x y i v w' := fun i v w w' hG h => by
  unfold GsPost at *
  split at h
  · obtain ⟨g, h1, h2, h3⟩ := h; exact ⟨g, h1, h2, h3.grow hG⟩
  · obtain ⟨a, c, h1, h2, h3⟩ := h; exact ⟨a, c, h1, h2, h3.grow hG⟩
  · exact h
  · exact h
  · obtain ⟨g, c, h1, h2, h3⟩ := h; exact ⟨g, c, h1, h2, h3.grow hG⟩
  · obtain ⟨g, c, h1, h2, h3⟩ := h; exact ⟨g, c, h1, h2, h3.grow hG⟩
  · trivial
end Go.Proofs.Ytkafhbedipfgpaa
