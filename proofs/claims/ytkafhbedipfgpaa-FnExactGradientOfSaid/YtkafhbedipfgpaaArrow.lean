/-
  []Arrow: slices of pairs of lists, read and owned.
-/
import Derived.Test.YtkafhbedipfgpaaKindII
namespace Go.Proofs.Ytkafhbedipfgpaa
open Go.RowKit

abbrev Arw := List Int × List Int
def flat : List Arw → List (List Int)
  | [] => []
  | p :: r => p.1 :: p.2 :: flat r
@[simp] theorem flat_nil : flat [] = [] := rfl
@[simp] theorem flat_cons (p : Arw) (r : List Arw) : flat (p :: r) = p.1 :: p.2 :: flat r := rfl
theorem flat_append : ∀ (l r : List Arw), flat (l ++ r) = flat l ++ flat r
  | [], _ => rfl
  | p :: l, r => by simp [flat_append l r]
theorem flat_len : ∀ l : List Arw, (flat l).length = l.length * 2
  | [] => rfl
  | p :: l => by simp [flat_len l]; omega
theorem flat_take : ∀ (l : List Arw) (k : Nat), flat (l.take k) = (flat l).take (k * 2)
  | [], k => by simp
  | p :: l, 0 => by simp
  | p :: l, k + 1 => by rw [show (k + 1) * 2 = k * 2 + 1 + 1 from by omega]; simp [flat_take l k]
theorem flat_at : ∀ {l : List Arw} {k : Nat} {p : Arw}, l[k]? = some p → (flat l)[k * 2]? = some p.1 ∧ (flat l)[k * 2 + 1]? = some p.2
  | [], k, p, h => by simp at h
  | q :: l, 0, p, h => by simp at h; subst h; simp
  | q :: l, k + 1, p, h => by
    have := flat_at (l := l) (k := k) (p := p) (by simpa using h)
    rw [show (k + 1) * 2 = k * 2 + 1 + 1 from by omega]
    simpa using this

theorem flat_total_at {l : List Arw} {k : Nat} {x y : List Int} (h : l[k]? = some (x, y)) : total (flat (l.take (k + 1))) = total (flat (l.take k)) + x.length + y.length ∧ total (flat (l.take k)) + x.length + y.length ≤ total (flat l) := by
  have h1 : total (flat (l.take (k + 1))) = total (flat (l.take k)) + x.length + y.length := by rw [take_succ h, flat_append, total_append]; simp; omega
  refine ⟨h1, ?_⟩
  rw [← h1, flat_take]; exact total_take_le _ _

/-- The cells vs are slices that read as the lists xss. -/
def RdCells (w : World) (S : Nat → Prop) (vs : List Value) (xss : List (List Int)) : Prop :=
  ∀ (i : Nat) (xs : List Int), xss[i]? = some xs → ∃ b c, vs[i]? = some (Value.slice b xs.length c) ∧ RdI w S b xs.length c xs
theorem RdCells.keep {S T : Nat → Prop} {w w' : World} {vs : List Value} {xss : List (List Int)} (h : RdCells w S vs xss) (hk : Keep T w w') (hST : ∀ b, b < w.heap.size → S b → T b) : RdCells w' S vs xss := fun i xs hi => by
  obtain ⟨b, c, h3, h4⟩ := h i xs hi
  exact ⟨b, c, h3, h4.keep hk hST⟩
theorem RdCells.grow {S : Nat → Prop} {w w' : World} {vs : List Value} {xss : List (List Int)} (h : RdCells w S vs xss) (hk : Grow w w') : RdCells w' S vs xss := h.keep hk fun _ _ _ => trivial
theorem RdCells.weak {S T : Nat → Prop} {w : World} {vs : List Value} {xss : List (List Int)} (h : RdCells w S vs xss) (hST : ∀ b, b < w.heap.size → S b → T b) : RdCells w T vs xss := fun i xs hi => by
  obtain ⟨b, c, h3, h4⟩ := h i xs hi
  exact ⟨b, c, h3, h4.weak hST⟩
theorem RdCells.nilw {S : Nat → Prop} {w : World} : RdCells w S [] [] := fun i xs h => by simp at h
theorem RdCells.append {S : Nat → Prop} {w : World} {vs us : List Value} {xss yss : List (List Int)} (h : RdCells w S vs xss) (h' : RdCells w S us yss) (hl : vs.length = xss.length) : RdCells w S (vs ++ us) (xss ++ yss) := fun i xs hi => by
  by_cases hlt : i < xss.length
  · rw [List.getElem?_append_left hlt] at hi
    obtain ⟨b, c, h1, h2⟩ := h i xs hi
    exact ⟨b, c, by rw [List.getElem?_append_left (by omega)]; exact h1, h2⟩
  · rw [List.getElem?_append_right (by omega)] at hi
    obtain ⟨b, c, h1, h2⟩ := h' _ xs hi
    exact ⟨b, c, by rw [List.getElem?_append_right (by omega), hl]; exact h1, h2⟩
theorem RdCells.two {S : Nat → Prop} {w : World} {a1 a2 : Option Addr} {n1 n2 c1 c2 : Nat} {x y : List Int} (h1 : RdI w S a1 n1 c1 x) (h2 : RdI w S a2 n2 c2 y) : RdCells w S [.slice a1 n1 c1, .slice a2 n2 c2] [x, y] := fun i xs hi => by
  have e1 := h1.len; have e2 := h2.len
  subst e1; subst e2
  match i, hi with
  | 0, hi => simp at hi; subst hi; exact ⟨a1, c1, rfl, h1⟩
  | 1, hi => simp at hi; subst hi; exact ⟨a2, c2, rfl, h2⟩

/-- '.slice a n cap' reads as the arrows l. -/
structure RdA (w : World) (S : Nat → Prop) (a : Option Addr) (n cap : Nat) (l : List Arw) : Prop where
  row : ∃ vs : List Value, Row w S 2 a n cap vs ∧ RdCells w S vs (flat l)
  len : l.length = n
theorem RdA.keep {S T : Nat → Prop} {w w' : World} {a : Option Addr} {n cap : Nat} {l : List Arw} (h : RdA w S a n cap l) (hk : Keep T w w') (hST : ∀ b, b < w.heap.size → S b → T b) : RdA w' S a n cap l := by
  obtain ⟨⟨vs, h1, h2⟩, hl⟩ := h
  exact ⟨⟨vs, h1.keep hk hST, h2.keep hk hST⟩, hl⟩
theorem RdA.grow {S : Nat → Prop} {w w' : World} {a : Option Addr} {n cap : Nat} {l : List Arw} (h : RdA w S a n cap l) (hk : Grow w w') : RdA w' S a n cap l := h.keep hk fun _ _ _ => trivial
theorem RdA.weak {S T : Nat → Prop} {w : World} {a : Option Addr} {n cap : Nat} {l : List Arw} (h : RdA w S a n cap l) (hST : ∀ b, b < w.heap.size → S b → T b) : RdA w T a n cap l := by
  obtain ⟨⟨vs, h1, h2⟩, hl⟩ := h
  exact ⟨⟨vs, h1.weak hST, h2.weak hST⟩, hl⟩
theorem RdA.at {S : Nat → Prop} {w : World} {a : Option Addr} {n cap : Nat} {l : List Arw} (h : RdA w S a n cap l) {k : Nat} (hk : k < n) :
    ∃ b off x y a1 c1 a2 c2, a = some ⟨b, off, none⟩ ∧ l[k]? = some (x, y) ∧ S b ∧ b < w.heap.size ∧ (w.cell? ⟨b, off + k * 2, none⟩ = some (.slice a1 x.length c1) ∧ w.cell? ⟨b, off + k * 2 + 1, none⟩ = some (.slice a2 y.length c2)) ∧ RdI w S a1 x.length c1 x ∧ RdI w S a2 y.length c2 y := by
  obtain ⟨⟨vs, h1, h2⟩, hl⟩ := h
  have hlt : k < l.length := by omega
  have hk' : l[k]? = some l[k] := List.getElem?_eq_getElem hlt
  obtain ⟨f1, f2⟩ := flat_at hk'
  obtain ⟨a1, c1, h3, h4⟩ := h2 _ _ f1
  obtain ⟨a2, c2, h5, h6⟩ := h2 _ _ f2
  obtain ⟨b, off, ha, hS, hc⟩ := h1.addr (by intro e; subst e; simp at h3)
  have h7 := hc _ _ h3
  have h8 := hc _ _ h5
  exact ⟨b, off, l[k].1, l[k].2, a1, c1, a2, c2, ha, hk', hS, World.block_lt_of_cell? w _ h7, ⟨h7, h8⟩, h4, h6⟩
theorem Row.pre {S : Nat → Prop} {w : World} {sz : Nat} {a : Option Addr} {n cap : Nat} {cs : List Value} (h : Row w S sz a n cap cs) {k : Nat} (hk : k ≤ n) : Row w S sz a k cap (cs.take (k * sz)) := by
  have h1 := h.len; have h2 := h.le
  have h3 : k * sz ≤ n * sz := Nat.mul_le_mul_right _ hk
  refine ⟨by rw [List.length_take]; omega, by omega, h.max, h.nil, fun hne => ?_⟩
  have hcs : cs ≠ [] := by intro e; subst e; simp at hne
  obtain ⟨b, off, rfl, hS, hc⟩ := h.addr hcs
  refine ⟨b, off, rfl, hS, fun j c hj => hc j c ?_⟩
  rw [List.getElem?_take] at hj
  split at hj
  · exact hj
  · cases hj
theorem RdA.pre {S : Nat → Prop} {w : World} {a : Option Addr} {n cap : Nat} {l : List Arw} (h : RdA w S a n cap l) {k : Nat} (hk : k ≤ n) : RdA w S a k cap (l.take k) := by
  obtain ⟨⟨vs, h1, h2⟩, hl⟩ := h
  refine ⟨⟨vs.take (k * 2), h1.pre hk, fun i xs hi => ?_⟩, by simp; omega⟩
  rw [flat_take, List.getElem?_take] at hi
  split at hi
  · rename_i hlt
    obtain ⟨b, c, h3, h4⟩ := h2 i xs hi
    exact ⟨b, c, by rw [List.getElem?_take, if_pos hlt]; exact h3, h4⟩
  · cases hi
theorem RdA.cap_le {S : Nat → Prop} {w : World} {a : Option Addr} {n cap : Nat} {l : List Arw} (h : RdA w S a n cap l) : n ≤ cap ∧ cap ≤ maxLen := by
  obtain ⟨⟨vs, h1, h2⟩, hl⟩ := h
  exact ⟨h1.le, h1.max⟩

/-- '.slice a n cap' owns the arrows l: a block of its own for itself and for each list, all of F. -/
structure SepA (w : World) (F : Nat → Prop) (a : Option Addr) (n cap : Nat) (l : List Arw) : Prop where
  own : ∃ vs, Own w 79 2 a n cap vs ∧ Inner w F (blk a) vs (flat l)
  lo : ∀ g, blk a = some g → F g
theorem SepA.keep {w w' : World} {F T : Nat → Prop} {a : Option Addr} {n cap : Nat} {l : List Arw} (h : SepA w F a n cap l) (hk : Keep T w w') (hT : ∀ b, b < w.heap.size → F b → T b) : SepA w' F a n cap l := by
  obtain ⟨⟨vs, h1, h2⟩, h3⟩ := h
  exact ⟨⟨vs, h1.keep hk (fun g hg hlt => hT g hlt (h3 g hg)), h2.keep hk (fun b hb hF _ => hT b hb hF)⟩, h3⟩
theorem SepA.grow {w w' : World} {F : Nat → Prop} {a : Option Addr} {n cap : Nat} {l : List Arw} (h : SepA w F a n cap l) (hk : Grow w w') : SepA w' F a n cap l := h.keep hk fun _ _ _ => trivial
theorem SepA.weak {w : World} {F G : Nat → Prop} {a : Option Addr} {n cap : Nat} {l : List Arw} (h : SepA w F a n cap l) (hF : ∀ b, b < w.heap.size → F b → G b) : SepA w G a n cap l := by
  obtain ⟨⟨vs, h1, h2⟩, h3⟩ := h
  exact ⟨⟨vs, h1, h2.weak fun b hb hFb hne => ⟨hF b hb hFb, hne⟩⟩, fun g hg => hF g (h1.lt hg) (h3 g hg)⟩
theorem Inner.rdCells {w : World} {F S : Nat → Prop} {g : Option Nat} {vs : List Value} {xss : List (List Int)} (h : Inner w F g vs xss) (hS : ∀ b, F b → g ≠ some b → S b) : RdCells w S vs xss := fun i xs hi => by
  obtain ⟨b, c, h1, h2, h3, h4⟩ := h.each i xs hi
  exact ⟨b, c, h1, h2.rdI (fun q hq => hS q (h4 q hq).1 (h4 q hq).2) h3⟩
theorem SepA.len {w : World} {F : Nat → Prop} {a : Option Addr} {n cap : Nat} {l : List Arw} (h : SepA w F a n cap l) : l.length = n := by
  obtain ⟨⟨vs, h1, h2⟩, h3⟩ := h
  have := h1.len; have := h2.len; rw [flat_len] at this; omega
theorem SepA.rdA {w : World} {F S : Nat → Prop} {a : Option Addr} {n cap : Nat} {l : List Arw} (h : SepA w F a n cap l) (hS : ∀ b, F b → S b) : RdA w S a n cap l := by
  have hl := h.len
  obtain ⟨⟨vs, h1, h2⟩, h3⟩ := h
  exact ⟨⟨vs, h1.row fun g hg => hS g (h3 g hg), h2.rdCells fun b hb _ => hS b hb⟩, hl⟩

theorem T_arrow : StT Try.prog 79 2 := ⟨_, Try.underlying79, by kernel_rfl⟩
theorem T_arrows : SlT Try.prog 47 79 (.agg #[.slice none 0 0, .slice none 0 0]) 2 48 := SlT.mk' Try.underlying47 (by kernel_rfl) rfl
/-- A load of a struct of two cells, anywhere. -/
theorem StT.load2 {P : Program} {ty : TypeId} (h : StT P ty 2) {w : World} {b o : Nat} {u v : Value} (h0 : w.cell? ⟨b, o, none⟩ = some u) (h1 : w.cell? ⟨b, o + 1, none⟩ = some v) : (loadVar ty ⟨b, o, none⟩).run P w = .ok (.agg #[u, v]) w := by
  obtain ⟨fs, hu, hi⟩ := h
  obtain ⟨i, hi', hs⟩ := Option.map_eq_some_iff.1 hi
  have hg : (isAgg ty).run P w = .ok true w := by simp [isAgg, run_underlying hu]
  have hsz : (sizeOf ty).run P w = .ok 2 w := by simp [sizeOf, typeInfo, hi', hs]
  have hl := run_loadCells_list (P := P) (w := w) ⟨b, o, none⟩ [u, v] (fun j x hj => by
    match j, hj with
    | 0, hj => simp at hj; subst hj; simpa [Addr.add] using h0
    | 1, hj => simp at hj; subst hj; simpa [Addr.add] using h1)
  simp only [List.length_cons, List.length_nil] at hl
  simp [loadVar, hg, hsz, hl]
theorem quiet_load2 {P : Program} {C : World → Prop} {o : Oper} {a : Act} {K : Act → Prop} {ty : TypeId} {x : Operand} {b j : Nat} {u v : Value} (hty : StT P ty 2) (ho : o.op = .load ty x) (hx : a.eval x = .pointer (some ⟨b, j, none⟩))
    (hv : ∀ w', C w' → w'.cell? ⟨b, j, none⟩ = some u ∧ w'.cell? ⟨b, j + 1, none⟩ = some v) (hk : K (a.put o.dst (.agg #[u, v]))) : o.quiet P a C K := by
  refine ⟨.agg #[u, v], fun w hw => ?_, hk⟩
  have h := hty.load2 (hv w hw).1 (hv w hw).2
  unfold Oper.quietAt execOp
  simp [ho, hx, Instr.loadAt, Instr.sureAddr, h, Oper.quietUpon]
end Go.Proofs.Ytkafhbedipfgpaa
