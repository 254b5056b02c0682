/-
  Arguments of type []Arrow, opened.
-/
import Derived.Test.YtkafhbedipfgpaaArrowK2
import Derived.Test.YtkafhbedipfgpaaClose
namespace Go.Proofs.Ytkafhbedipfgpaa
open Go.ChangeShapes Go.WideShapes Go.ChangeAt Go.RowKit
section
variable {H : Type} {enc : TypeId × Value → H} {P : Program} {w : World}

theorem Addr_add_add (a : Addr) (i j : Nat) : (a.add i).add j = a.add (i + j) := by
  cases a; rename_i b o s
  by_cases hi : i = 0 <;> by_cases hj : j = 0 <;> cases s <;> simp [Addr.add, hi, hj, Nat.add_assoc]
theorem two_of_cells? {a : Addr} {cs : List Value} (h : w.cells? 0 a 2 = some cs) : ∃ u v, cs = [u, v] ∧ w.cell? a = some u ∧ w.cell? (a.add 1) = some v := by
  have h0 : a.add 0 = a := by cases a; rename_i b o s; cases s <;> simp [Addr.add]
  simp only [World.cells?, Nat.zero_le, if_true, show List.range 2 = [0, 1] from rfl, List.mapM_cons, List.mapM_nil, h0] at h
  cases hc : w.cell? a with
  | none => rw [hc] at h; cases h
  | some u =>
    cases hd : w.cell? (a.add 1) with
    | none => rw [hc, hd] at h; cases h
    | some v =>
      rw [hc, hd] at h
      exact ⟨u, v, (Option.some.inj h).symm, rfl, rfl⟩
theorem openAA {r : Reach} {b0 : Nat} {t u e : TypeId} {f0 f1 : Field} {v : Value} {d : DataW H} {ps : List MemPlace} (ht : P.underlying t = some (.slice u)) (hu : P.underlying u = some (.struct #[f0, f1])) (hcu : P.cellsOf u = 2)
    (h0 : P.underlying f0.type = some (.slice e)) (h1 : P.underlying f1.type = some (.slice e)) (he : P.underlying e = some (.int .i64)) (o0 : f0.offset = 0) (o1 : f1.offset = 1) (c0 : P.cellsOf f0.type = 1) (c1 : P.cellsOf f1.type = 1) (hc : P.cellsOf e = 1)
    (hval : Value.okWide P w r b0 t v) (h : DataW.Trod enc P w 0 (fun _ => true) true t v d ps) : ∃ a n cap l, v = .slice a n cap ∧ RdA w (fun _ => True) a n cap l := by
  obtain ⟨fuel, hf⟩ := h
  obtain ⟨a0, len, cap, rfl⟩ := okWide_slice ht hval
  rcases DataW.trod_slice ht hf with ⟨hcs, _⟩ | ⟨a, len', cap', elems, rest, m, _, hcs, _, _, hl, hm, hlen, hel, _, _⟩
  · simp [Value.cells] at hcs
    obtain ⟨rfl, rfl, rfl⟩ := hcs
    exact ⟨none, 0, 0, [], rfl, ⟨[], ⟨rfl, Nat.le_refl _, by simp [maxLen], fun _ => rfl, fun h => (h rfl).elim⟩, RdCells.nilw⟩, rfl⟩
  · simp [Value.cells] at hcs
    obtain ⟨rfl, rfl, rfl⟩ := hcs
    have each : ∀ i, i < len → ∃ (c : Value × Value) (p : Arw), w.cell? (a.add (i * 2)) = some c.1 ∧ w.cell? (a.add (i * 2 + 1)) = some c.2 ∧ (∃ b cp, c.1 = .slice b p.1.length cp ∧ RdI w (fun _ => True) b p.1.length cp p.1) ∧ ∃ b cp, c.2 = .slice b p.2.length cp ∧ RdI w (fun _ => True) b p.2.length cp p.2 := by
      intro i hi
      have h1' := hel i hi
      rw [List.getElem?_eq_getElem (by omega), hcu] at h1'
      obtain ⟨cs, h2, h3⟩ := Option.bind_eq_some_iff.1 h1'
      obtain ⟨c, c', rfl, h4, h5⟩ := two_of_cells? h2
      rw [Addr_add_add] at h5
      obtain ⟨y0, y1, q, _, _, h6, h7⟩ := trod_struct2 hu h3
      rw [o0, c0] at h6
      rw [o1, c1] at h7
      obtain ⟨b, n, cp, xs, h8, h9⟩ := openI_cs h0 he hc h6
      obtain ⟨b', n', cp', ys, h10, h11⟩ := openI_cs h1 he hc h7
      have e1 := h9.len; have e2 := h11.len
      subst e1; subst e2
      exact ⟨(c, c'), (xs, ys), h4, h5, ⟨b, cp, by simpa using h8, h9⟩, b', cp', by simpa using h10, h11⟩
    obtain ⟨f, hf'⟩ := choose2 each
    have hvl : ∀ k, ((List.range k).flatMap fun i => [(f i).1.1, (f i).1.2]).length = k * 2 := by
      intro k
      induction k with
      | zero => rfl
      | succ k ih => rw [List.range_succ, List.flatMap_append, List.length_append, ih]; simp; omega
    have hva : ∀ k i, i < k → ((List.range k).flatMap fun i => [(f i).1.1, (f i).1.2])[i * 2]? = some (f i).1.1 ∧ ((List.range k).flatMap fun i => [(f i).1.1, (f i).1.2])[i * 2 + 1]? = some (f i).1.2 := by
      intro k
      induction k with
      | zero => intro i hi; omega
      | succ k ih =>
        intro i hi
        rw [List.range_succ, List.flatMap_append]
        by_cases e : i = k
        · subst e
          rw [List.getElem?_append_right (by rw [hvl]; omega), List.getElem?_append_right (by rw [hvl]; omega), hvl, Nat.sub_self, show i * 2 + 1 - i * 2 = 1 from by omega]
          simp
        · rw [List.getElem?_append_left (by rw [hvl]; omega), List.getElem?_append_left (by rw [hvl]; omega)]
          exact ih i (by omega)
    refine ⟨some a, len, cap, (List.range len).map fun i => (f i).2, rfl, ⟨(List.range len).flatMap fun i => [(f i).1.1, (f i).1.2], ⟨by rw [hvl], hl, hm, (fun h => by cases h), fun hne => ?_⟩, fun i xs hi => ?_⟩, by simp⟩
    · have hlen : 0 < len := by
        rcases Nat.eq_zero_or_pos len with h0 | h0
        · subst h0; simp at hne
        · exact h0
      have h0 := (hf' 0 hlen).1
      have hs : a.spot = none := by simpa [Addr.add] using World.cell?_spot h0
      obtain ⟨b, off, spot⟩ := a
      simp only at hs; subst hs
      refine ⟨b, off, rfl, trivial, fun j c hj => ?_⟩
      have hjl : j < len * 2 := by rw [← hvl len]; exact (List.getElem?_eq_some_iff.1 hj).1
      have e2 : ∀ q, (⟨b, off, none⟩ : Addr).add q = ⟨b, off + q, none⟩ := fun q => by unfold Addr.add; split <;> simp_all
      rcases Nat.mod_two_eq_zero_or_one j with hp | hp
      · obtain ⟨i, rfl⟩ : ∃ i, j = i * 2 := ⟨j / 2, by omega⟩
        rw [(hva len i (by omega)).1] at hj
        rw [← e2, ← Option.some.inj hj]; exact (hf' i (by omega)).1
      · obtain ⟨i, rfl⟩ : ∃ i, j = i * 2 + 1 := ⟨j / 2, by omega⟩
        rw [(hva len i (by omega)).2] at hj
        rw [← e2, ← Option.some.inj hj]; exact (hf' i (by omega)).2.1
    · have hil : i < len * 2 := by have := (List.getElem?_eq_some_iff.1 hi).1; rw [flat_len] at this; simpa using this
      rcases Nat.mod_two_eq_zero_or_one i with hp | hp
      · obtain ⟨k, rfl⟩ : ∃ k, i = k * 2 := ⟨i / 2, by omega⟩
        have hk : k < len := by omega
        rw [(flat_at (p := (f k).2) (range_map_at hk)).1] at hi
        obtain rfl := Option.some.inj hi
        obtain ⟨b, cp, h1, h2⟩ := (hf' k hk).2.2.1
        exact ⟨b, cp, by rw [(hva len k hk).1, h1], h2⟩
      · obtain ⟨k, rfl⟩ : ∃ k, i = k * 2 + 1 := ⟨i / 2, by omega⟩
        have hk : k < len := by omega
        rw [(flat_at (p := (f k).2) (range_map_at hk)).2] at hi
        obtain rfl := Option.some.inj hi
        obtain ⟨b, cp, h1, h2⟩ := (hf' k hk).2.2.2
        exact ⟨b, cp, by rw [(hva len k hk).2, h1], h2⟩
end
theorem cells_arrow : Try.prog.cellsOf 78 = 2 := by kernel_rfl
set_option maxRecDepth 100000 in
theorem openAAx {H : Type} {enc : TypeId × Value → H} {w : World} {r : Reach} {b0 : Nat} {v : Value} {d : DataW H} {ps : List MemPlace} (hval : Value.okWide Try.prog w r b0 44 v) (h : DataW.Trod enc Try.prog w 0 (fun _ => true) true 44 v d ps) : ∃ a n cap l, v = .slice a n cap ∧ RdA w (fun _ => True) a n cap l :=
  openAA Try.underlying44 Try.underlying78 cells_arrow Try.underlying28 Try.underlying28 Try.underlying3 rfl rfl cells_ints cells_ints cells_int hval h
end Go.Proofs.Ytkafhbedipfgpaa
