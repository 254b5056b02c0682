/-
  Appends for which there is no room: a new block, all else stays; appends and slice literals as steps of a region that draws its order. No condition.
-/
import Derived.Test.YthlncohllbmapaaPar
import Derived.Great.BuildSlice
namespace Go.Proofs.Ythlncohllbmapaa
open Go.RowKit

theorem run_app_new {P : Program} (w : World) (t ty e : TypeId) (i : TypeInfo) (z : Value) (sz bytes : Nat) (ht : P.underlying t = some (.slice e)) (hi : P.info? e = some i) (hz : i.zero = some z)
    (hsize : i.size = sz) (hby : i.bytes = bytes) (hzs : z.cells.size = sz)
    {S T : Nat → Prop} {a : Option Addr} {n cap : Nat} {cs : List Value} (hdst : Row w T sz a n cap cs) {b : Option Addr} {m c : Nat} {news : List Value} (hsrc : Row w S sz b m c news)
    (hroom : ¬ n + m ≤ cap) (hbytes : (n + m) * bytes ≤ 140737488355328) (h63 : n + m ≤ maxLen) :
    ∃ cap' w', (Builtin.append_ #[t, t] ty #[.slice a n cap, .slice b m c]).run P w = .ok (.slice (some ⟨w.heap.size, 0, none⟩) (n + m) cap') w' ∧ Own w' e sz (some ⟨w.heap.size, 0, none⟩) (n + m) cap' (cs ++ news) ∧ Grow w w' := by
  subst hsize
  subst hby
  have hlen : (cs ++ news).length = (n + m) * i.size := by rw [List.length_append, hdst.len, hsrc.len, Nat.add_mul]
  have cells : ∀ {Z : Nat → Prop} {q : Option Addr} {k c : Nat} {us : List Value}, Row w Z i.size q k c us → (Builtin.firstCells i.size k (.slice q k c)).run P w.drew = .ok us.toArray w.drew := by
    intro Z q k c us hr
    by_cases hne : us = []
    · subst hne
      have hm : k * i.size = 0 := by have := hr.len; simpa using this.symm
      cases q with
      | none => simp [Builtin.firstCells]
      | some q => exact run_firstCells_some w.drew i.size k q k c [] (by simpa using hm.symm) (by simp)
    · obtain ⟨q, off, rfl, _, hc⟩ := hr.addr hne
      refine run_firstCells_some w.drew i.size k _ k c us hr.len fun j u hj => ?_
      have : (⟨q, off, none⟩ : Addr).add j = ⟨q, off + j, none⟩ := by unfold Addr.add; split <;> simp_all
      rw [this]; exact hc j u hj
  have hold := cells hdst
  have hf' := cells hsrc
  have hcap := growslice_fits (need := n + m) (old := cap) (bytes := i.bytes) (by omega) hbytes
  have h48 : ¬ (281474976710656 < Builtin.nextslicecap (n + m) cap * i.bytes) := by omega
  have hge := grownCap_ge w (n + m) cap e
  have hcm : grownCap w (n + m) cap e ≤ maxLen := grownCap_le_maxLen w (n + m) cap e h63
  refine ⟨grownCap w (n + m) cap e, w.drew.alloc (.cells (cs.toArray ++ news.toArray ++ Builtin.zeroCells z.cells (grownCap w (n + m) cap e - (n + m))) e), ?_,
    ⟨hlen, hge, hcm, (fun h => by cases h), fun q hq => ?_⟩, ((Grow.refl w).drew).alloc _ _⟩
  · have hs2 : ¬ (9223372036854775807 < ((n : Int) + (m : Int))) := by simp only [maxLen] at h63; omega
    simp [Builtin.append_, run_underlying ht, sizeOf, typeInfo, zeroValue, hi, hz, Builtin.lenOf, hroom, hs2, h48, Question.forced, hold, hf', newRow, grownCap]
    rw [← Array.append_assoc]; simp
  · obtain rfl := Option.some.inj hq
    refine ⟨rfl, _, heap_alloc_new w.drew _, ?_, ?_⟩
    · simp only [Array.size_append, List.size_toArray, size_zeroCells, hzs, hdst.len, hsrc.len, ← Nat.add_mul]
      exact Nat.mul_le_mul_right _ (by omega)
    · simp only [Array.toList_append, List.append_assoc]
      rw [← List.append_assoc, ← hlen]
      exact List.take_left
section
variable {P : Program} {o : Oper} {a : Act} {w : World} {K : Act → World → Prop} {Q : Exit → Act → World → Prop}
/-- An append for which there is no room, as one operation. -/
theorem par_app {s x : Operand} {t : TypeId} (ho : o.op = .call { callee := .builtin .append, args := #[s, x], argTypes := #[t, t] }) {e : TypeId} {z : Value} {sz bytes : Nat} (hT : SlT P t e z sz bytes)
    {S T : Nat → Prop} {p : Option Addr} {n cap : Nat} {cs : List Value} (hs : a.eval s = .slice p n cap) (hdst : Row w T sz p n cap cs) {b : Option Addr} {m c : Nat} {news : List Value} (hx : a.eval x = .slice b m c) (hsrc : Row w S sz b m c news)
    (hroom : ¬ n + m ≤ cap) (hbytes : (n + m) * bytes ≤ 140737488355328) (h63 : n + m ≤ maxLen)
    (h : ∀ cap' w', Own w' e sz (some ⟨w.heap.size, 0, none⟩) (n + m) cap' (cs ++ news) → Grow w w' → K (a.put o.dst (.slice (some ⟨w.heap.size, 0, none⟩) (n + m) cap')) w') : o.wp P a w K Q := by
  obtain ⟨ht, ⟨i, hi, hz, hsz, hby⟩, hzs⟩ := hT
  obtain ⟨cap', w', hr, hown, hG⟩ := run_app_new (P := P) w t o.type e i z sz bytes ht hi hz hsz hby hzs hdst hsrc hroom hbytes h63
  unfold Oper.wp execOp
  simp only [ho, resolve, invoke, builtin, Sem.run_bind, Sem.run_pure, Result.andThen_ok, List.map_toArray, List.map_cons, List.map_nil, hs, hx, hr]
  exact h _ _ hown hG
theorem wpList_app_new {ops : Array Oper} {rest : List Oper} (hgd : o.guard = none) (s x : Operand) (t : TypeId) (ho : o.op = .call { callee := .builtin .append, args := #[s, x], argTypes := #[t, t] }) {e : TypeId} {z : Value} {sz bytes : Nat} (hT : SlT P t e z sz bytes)
    {S T : Nat → Prop} {p : Option Addr} {n cap : Nat} {cs : List Value} (hs : a.eval s = .slice p n cap) (hdst : Row w T sz p n cap cs) {b : Option Addr} {m c : Nat} {news : List Value} (hx : a.eval x = .slice b m c) (hsrc : Row w S sz b m c news)
    (hroom : ¬ n + m ≤ cap) (hbytes : (n + m) * bytes ≤ 140737488355328) (h63 : n + m ≤ maxLen)
    (h : ∀ cap' w', Own w' e sz (some ⟨w.heap.size, 0, none⟩) (n + m) cap' (cs ++ news) → Grow w w' → wpList P ops Q rest (a.put o.dst (.slice (some ⟨w.heap.size, 0, none⟩) (n + m) cap')) w') : wpList P ops Q (o :: rest) a w :=
  wpList_plain hgd fun _ hK => par_app ho hT hs hdst hx hsrc hroom hbytes h63 fun c' w' h1 h2 => hK _ _ (h c' w' h1 h2)
theorem par_built0 {t : TypeId} (ho : o.op = .buildSlice t 0 #[]) {e : TypeId} {z : Value} {sz bytes : Nat} (hT : SlT P t e z sz bytes)
    (h : K (a.put o.dst (.slice (some ⟨w.heap.size, 0, none⟩) 0 0)) (w.alloc (.cells #[] e))) : o.wp P a w K Q := by
  obtain ⟨ht, ⟨i, hi, hz, hsz, hby⟩, hzs⟩ := hT
  have hr : (Instr.buildSlice t 0 #[]).run P w = .ok (.slice (some ⟨w.heap.size, 0, none⟩) 0 0) (w.alloc (.cells #[] e)) := by
    simp [Instr.buildSlice, run_underlying ht, sizeOf, typeInfo, hi, newRow, Instr.fill, show Array.range 0 = #[] from by simp [Array.range]]
  unfold Oper.wp execOp
  simp only [ho, List.map_toArray, List.map_nil, Sem.run_bind, hr, Result.andThen_ok]
  exact h
theorem par_built1 {t : TypeId} {x : Operand} (ho : o.op = .buildSlice t 1 #[(0, x)]) {e : TypeId} {z : Value} {sz bytes : Nat} (hT : SlT P t e z sz bytes) {v : Value} (hx : a.eval x = v) (hsm : 0 < sz ∧ sz ≤ 1000)
    (hfill : Instr.fill (fun i => some (i * sz, sz)) ((Array.range (1 * sz)).map (z.cells[· % z.cells.size]!)) [(0, v)] = some v.cells)
    (h : K (a.put o.dst (.slice (some ⟨w.heap.size, 0, none⟩) 1 1)) (w.alloc (.cells v.cells e))) : o.wp P a w K Q := by
  obtain ⟨ht, ⟨i, hi, hz, hsz, hby⟩, hzs⟩ := hT
  refine wp_buildSlice t e 1 #[(0, x)] ho v.cells i z ht hi hz (by rw [hsz]; omega) (by rw [hsz]; omega) ?_ h
  rw [hsz]
  simpa [hx] using hfill
end
/-- A read-only look at a row, with less room. -/
theorem Row.trim {w : World} {S : Nat → Prop} {sz : Nat} {a : Option Addr} {n cap : Nat} {cs : List Value} (h : Row w S sz a n cap cs) : Row w S sz a n n cs := ⟨h.len, Nat.le_refl _, Nat.le_trans h.le h.max, fun e => by have := h.nil e; have := h.le; omega, h.addr⟩
end Go.Proofs.Ythlncohllbmapaa
