/-
  []Arrow: slices of pairs of lists, read and owned.
-/
import Derived.Test.YteijmppjdljedaaZRdc
namespace Go.Proofs.Yteijmppjdljedaa
open Go.RowKit

abbrev Arw := List Int × List Int
def flat : List Arw → List (List Int)
  | [] => []
  | p :: r => p.1 :: p.2 :: flat r
@[simp] theorem flat_nil : flat [] = [] := rfl
@[simp] theorem flat_cons (p : Arw) (r : List Arw) : flat (p :: r) = p.1 :: p.2 :: flat r := rfl
theorem flat_append : ∀ (l r : List Arw), flat (l ++ r) = flat l ++ flat r
  | [], _ => rfl
  | p :: l, r => by simp [flat_append l r]
theorem flat_len : ∀ l : List Arw, (flat l).length = l.length * 2
  | [] => rfl
  | p :: l => by simp [flat_len l]; omega
theorem flat_take : ∀ (l : List Arw) (k : Nat), flat (l.take k) = (flat l).take (k * 2)
  | [], k => by simp
  | p :: l, 0 => by simp
  | p :: l, k + 1 => by rw [show (k + 1) * 2 = k * 2 + 1 + 1 from by omega]; simp [flat_take l k]
theorem flat_at : ∀ {l : List Arw} {k : Nat} {p : Arw}, l[k]? = some p → (flat l)[k * 2]? = some p.1 ∧ (flat l)[k * 2 + 1]? = some p.2
  | [], k, p, h => by simp at h
  | q :: l, 0, p, h => by simp at h; subst h; simp
  | q :: l, k + 1, p, h => by
    have := flat_at (l := l) (k := k) (p := p) (by simpa using h)
    rw [show (k + 1) * 2 = k * 2 + 1 + 1 from by omega]
    simpa using this

theorem flat_total_at {l : List Arw} {k : Nat} {x y : List Int} (h : l[k]? = some (x, y)) : total (flat (l.take (k + 1))) = total (flat (l.take k)) + x.length + y.length ∧ total (flat (l.take k)) + x.length + y.length ≤ total (flat l) := by
  have h1 : total (flat (l.take (k + 1))) = total (flat (l.take k)) + x.length + y.length := by rw [take_succ h, flat_append, total_append]; simp; omega
  refine ⟨h1, ?_⟩
  rw [← h1, flat_take]; exact total_take_le _ _

/-- '.slice a n cap' reads as the arrows l. -/
structure RdA (w : World) (S : Nat → Prop) (a : Option Addr) (n cap : Nat) (l : List Arw) : Prop where
  row : ∃ vs : List Value, Row w S 2 a n cap vs ∧ RdCells w S vs (flat l)
  len : l.length = n
theorem RdA.keep {S T : Nat → Prop} {w w' : World} {a : Option Addr} {n cap : Nat} {l : List Arw} (h : RdA w S a n cap l) (hk : Keep T w w') (hST : ∀ b, b < w.heap.size → S b → T b) : RdA w' S a n cap l := by
  obtain ⟨⟨vs, h1, h2⟩, hl⟩ := h
  exact ⟨⟨vs, h1.keep hk hST, h2.keep hk hST⟩, hl⟩
theorem RdA.grow {S : Nat → Prop} {w w' : World} {a : Option Addr} {n cap : Nat} {l : List Arw} (h : RdA w S a n cap l) (hk : Grow w w') : RdA w' S a n cap l := h.keep hk fun _ _ _ => trivial
theorem RdA.weak {S T : Nat → Prop} {w : World} {a : Option Addr} {n cap : Nat} {l : List Arw} (h : RdA w S a n cap l) (hST : ∀ b, b < w.heap.size → S b → T b) : RdA w T a n cap l := by
  obtain ⟨⟨vs, h1, h2⟩, hl⟩ := h
  exact ⟨⟨vs, h1.weak hST, h2.weak hST⟩, hl⟩
theorem RdA.at {S : Nat → Prop} {w : World} {a : Option Addr} {n cap : Nat} {l : List Arw} (h : RdA w S a n cap l) {k : Nat} (hk : k < n) :
    ∃ b off x y a1 c1 a2 c2, a = some ⟨b, off, none⟩ ∧ l[k]? = some (x, y) ∧ S b ∧ b < w.heap.size ∧ (w.cell? ⟨b, off + k * 2, none⟩ = some (.slice a1 x.length c1) ∧ w.cell? ⟨b, off + k * 2 + 1, none⟩ = some (.slice a2 y.length c2)) ∧ RdI w S a1 x.length c1 x ∧ RdI w S a2 y.length c2 y := by
  obtain ⟨⟨vs, h1, h2⟩, hl⟩ := h
  have hlt : k < l.length := by omega
  have hk' : l[k]? = some l[k] := List.getElem?_eq_getElem hlt
  obtain ⟨f1, f2⟩ := flat_at hk'
  obtain ⟨a1, c1, h3, h4⟩ := h2 _ _ f1
  obtain ⟨a2, c2, h5, h6⟩ := h2 _ _ f2
  obtain ⟨b, off, ha, hS, hc⟩ := h1.addr (by intro e; subst e; simp at h3)
  have h7 := hc _ _ h3
  have h8 := hc _ _ h5
  exact ⟨b, off, l[k].1, l[k].2, a1, c1, a2, c2, ha, hk', hS, World.block_lt_of_cell? w _ h7, ⟨h7, h8⟩, h4, h6⟩
theorem RdA.pre {S : Nat → Prop} {w : World} {a : Option Addr} {n cap : Nat} {l : List Arw} (h : RdA w S a n cap l) {k : Nat} (hk : k ≤ n) : RdA w S a k cap (l.take k) := by
  obtain ⟨⟨vs, h1, h2⟩, hl⟩ := h
  refine ⟨⟨vs.take (k * 2), h1.pre hk, fun i xs hi => ?_⟩, by simp; omega⟩
  rw [flat_take, List.getElem?_take] at hi
  split at hi
  · rename_i hlt
    obtain ⟨b, c, h3, h4⟩ := h2 i xs hi
    exact ⟨b, c, by rw [List.getElem?_take, if_pos hlt]; exact h3, h4⟩
  · cases hi
theorem RdA.cap_le {S : Nat → Prop} {w : World} {a : Option Addr} {n cap : Nat} {l : List Arw} (h : RdA w S a n cap l) : n ≤ cap ∧ cap ≤ maxLen := by
  obtain ⟨⟨vs, h1, h2⟩, hl⟩ := h
  exact ⟨h1.le, h1.max⟩

/-- '.slice a n cap' owns the arrows l: a block of its own for itself and for each list, all of F. -/
structure SepA (w : World) (F : Nat → Prop) (a : Option Addr) (n cap : Nat) (l : List Arw) : Prop where
  own : ∃ vs, Own w 43 2 a n cap vs ∧ Inner w F (blk a) vs (flat l)
  lo : ∀ g, blk a = some g → F g
theorem SepA.keep {w w' : World} {F T : Nat → Prop} {a : Option Addr} {n cap : Nat} {l : List Arw} (h : SepA w F a n cap l) (hk : Keep T w w') (hT : ∀ b, b < w.heap.size → F b → T b) : SepA w' F a n cap l := by
  obtain ⟨⟨vs, h1, h2⟩, h3⟩ := h
  exact ⟨⟨vs, h1.keep hk (fun g hg hlt => hT g hlt (h3 g hg)), h2.keep hk (fun b hb hF _ => hT b hb hF)⟩, h3⟩
theorem SepA.grow {w w' : World} {F : Nat → Prop} {a : Option Addr} {n cap : Nat} {l : List Arw} (h : SepA w F a n cap l) (hk : Grow w w') : SepA w' F a n cap l := h.keep hk fun _ _ _ => trivial
theorem SepA.weak {w : World} {F G : Nat → Prop} {a : Option Addr} {n cap : Nat} {l : List Arw} (h : SepA w F a n cap l) (hF : ∀ b, b < w.heap.size → F b → G b) : SepA w G a n cap l := by
  obtain ⟨⟨vs, h1, h2⟩, h3⟩ := h
  exact ⟨⟨vs, h1, h2.weak fun b hb hFb hne => ⟨hF b hb hFb, hne⟩⟩, fun g hg => hF g (h1.lt hg) (h3 g hg)⟩
theorem SepA.len {w : World} {F : Nat → Prop} {a : Option Addr} {n cap : Nat} {l : List Arw} (h : SepA w F a n cap l) : l.length = n := by
  obtain ⟨⟨vs, h1, h2⟩, h3⟩ := h
  have := h1.len; have := h2.len; rw [flat_len] at this; omega
theorem SepA.rdA {w : World} {F S : Nat → Prop} {a : Option Addr} {n cap : Nat} {l : List Arw} (h : SepA w F a n cap l) (hS : ∀ b, F b → S b) : RdA w S a n cap l := by
  have hl := h.len
  obtain ⟨⟨vs, h1, h2⟩, h3⟩ := h
  exact ⟨⟨vs, h1.row fun g hg => hS g (h3 g hg), h2.rdCells fun b hb _ => hS b hb⟩, hl⟩

theorem T_arrow : StT Try.prog 43 2 := ⟨_, Try.underlying43, by kernel_rfl⟩
theorem T_arrows : SlT Try.prog 26 43 (.agg #[.slice none 0 0, .slice none 0 0]) 2 48 := SlT.mk' Try.underlying26 (by kernel_rfl) rfl
/-- A load of a struct of two cells, anywhere. -/
theorem StT.load2 {P : Program} {ty : TypeId} (h : StT P ty 2) {w : World} {b o : Nat} {u v : Value} (h0 : w.cell? ⟨b, o, none⟩ = some u) (h1 : w.cell? ⟨b, o + 1, none⟩ = some v) : (loadVar ty ⟨b, o, none⟩).run P w = .ok (.agg #[u, v]) w := by
  obtain ⟨fs, hu, hi⟩ := h
  obtain ⟨i, hi', hs⟩ := Option.map_eq_some_iff.1 hi
  have hg : (isAgg ty).run P w = .ok true w := by simp [isAgg, run_underlying hu]
  have hsz : (sizeOf ty).run P w = .ok 2 w := by simp [sizeOf, typeInfo, hi', hs]
  have hl := run_loadCells_list (P := P) (w := w) ⟨b, o, none⟩ [u, v] (fun j x hj => by
    match j, hj with
    | 0, hj => simp at hj; subst hj; simpa [Addr.add] using h0
    | 1, hj => simp at hj; subst hj; simpa [Addr.add] using h1)
  simp only [List.length_cons, List.length_nil] at hl
  simp [loadVar, hg, hsz, hl]
theorem quiet_load2 {P : Program} {C : World → Prop} {o : Oper} {a : Act} {K : Act → Prop} {ty : TypeId} {x : Operand} {b j : Nat} {u v : Value} (hty : StT P ty 2) (ho : o.op = .load ty x) (hx : a.eval x = .pointer (some ⟨b, j, none⟩))
    (hv : ∀ w', C w' → w'.cell? ⟨b, j, none⟩ = some u ∧ w'.cell? ⟨b, j + 1, none⟩ = some v) (hk : K (a.put o.dst (.agg #[u, v]))) : o.quiet P a C K := by
  refine ⟨.agg #[u, v], fun w hw => ?_, hk⟩
  have h := hty.load2 (hv w hw).1 (hv w hw).2
  unfold Oper.quietAt execOp
  simp [ho, hx, Instr.loadAt, Instr.sureAddr, h, Oper.quietUpon]
end Go.Proofs.Yteijmppjdljedaa

namespace Go.Proofs.Yteijmppjdljedaa
open Go.RowKit

def VAA (w : World) (S : Nat → Prop) (v : Value) (l : List Arw) : Prop := ∃ a n c, v = .slice a n c ∧ RdA w S a n c l
def OAA (w : World) (F : Nat → Prop) (v : Value) (l : List Arw) : Prop := ∃ a n c, v = .slice a n c ∧ SepA w F a n c l
def bdAA (l : List Arw) : Nat := l.length + total (flat l)
def cntAA (l : List Arw) : Nat := total (flat l)
theorem VAA.keep {S T : Nat → Prop} {w w' : World} {v : Value} {l : List Arw} (h : VAA w S v l) (hk : Keep T w w') (hST : ∀ b, b < w.heap.size → S b → T b) : VAA w' S v l := by
  obtain ⟨a, n, c, rfl, h⟩ := h; exact ⟨a, n, c, rfl, h.keep hk hST⟩
theorem VAA.grow {S : Nat → Prop} {w w' : World} {v : Value} {l : List Arw} (h : VAA w S v l) (hk : Grow w w') : VAA w' S v l := h.keep hk fun _ _ _ => trivial
theorem VAA.weak {S T : Nat → Prop} {w : World} {v : Value} {l : List Arw} (h : VAA w S v l) (hST : ∀ b, b < w.heap.size → S b → T b) : VAA w T v l := by
  obtain ⟨a, n, c, rfl, h⟩ := h; exact ⟨a, n, c, rfl, h.weak hST⟩
theorem OAA.keep {F T : Nat → Prop} {w w' : World} {v : Value} {l : List Arw} (h : OAA w F v l) (hk : Keep T w w') (hT : ∀ b, b < w.heap.size → F b → T b) : OAA w' F v l := by
  obtain ⟨a, n, c, rfl, h⟩ := h; exact ⟨a, n, c, rfl, h.keep hk hT⟩
theorem OAA.grow {F : Nat → Prop} {w w' : World} {v : Value} {l : List Arw} (h : OAA w F v l) (hk : Grow w w') : OAA w' F v l := h.keep hk fun _ _ _ => trivial
theorem OAA.weak {F G : Nat → Prop} {w : World} {v : Value} {l : List Arw} (h : OAA w F v l) (hF : ∀ b, b < w.heap.size → F b → G b) : OAA w G v l := by
  obtain ⟨a, n, c, rfl, h⟩ := h; exact ⟨a, n, c, rfl, h.weak hF⟩
theorem OAA.rd {F S : Nat → Prop} {w : World} {v : Value} {l : List Arw} (h : OAA w F v l) (hS : ∀ b, F b → S b) : VAA w S v l := by
  obtain ⟨a, n, c, rfl, h⟩ := h; exact ⟨a, n, c, rfl, h.rdA hS⟩

/-- What is left of a measure; -1 for too much. -/
def szAr (left : Int) : List Arw → Int
  | [] => left
  | p :: r => if left < p.1.length + p.2.length then -1 else szAr (left - p.1.length - p.2.length) r
def szAA (left : Int) (l : List Arw) : Int := if left < l.length then -1 else szAr (left - l.length) l
theorem szAr_ok {l : List Arw} : ∀ {left : Int}, 0 ≤ szAr left l → szAr left l = left - total (flat l) := by
  induction l with
  | nil => intro left _; simp [szAr]
  | cons p r ih =>
    intro left h
    unfold szAr at h ⊢
    by_cases hlt : left < p.1.length + p.2.length
    · rw [if_pos hlt] at h; omega
    · rw [if_neg hlt] at h ⊢
      rw [ih h]; simp; omega
theorem sz_AA_ok {l : List Arw} {left : Int} (h : 0 ≤ szAA left l) : szAA left l = left - bdAA l := by
  unfold szAA at h ⊢; unfold bdAA
  by_cases hlt : left < l.length
  · rw [if_pos hlt] at h; omega
  · rw [if_neg hlt] at h ⊢
    have := szAr_ok h
    omega
theorem szAr_drop {l : List Arw} {k : Nat} {x y : List Int} (h : l[k]? = some (x, y)) (q : Int) : szAr q (l.drop k) = if q < x.length + y.length then -1 else szAr (q - x.length - y.length) (l.drop (k + 1)) := by
  obtain ⟨hk, h1⟩ := List.getElem?_eq_some_iff.1 h
  rw [List.drop_eq_getElem_cons hk, h1]; rfl

end Go.Proofs.Yteijmppjdljedaa

namespace Go.Proofs.Yteijmppjdljedaa
open Go.RowKit

theorem madeCells_two (z : Value) (n : Nat) : (madeCells #[z, z] (n * 2)).toList = List.replicate (n * 2) z := by
  unfold madeCells
  refine List.ext_getElem (by simp) fun i h1 h2 => ?_
  simp at h1 ⊢
  rcases Nat.mod_two_eq_zero_or_one i with h | h <;> simp [h]
theorem fill_at2 {α : Type} {l : List α} {k n : Nat} {z : α} (hl : l.length = k * 2) (hk : k < n) : (l ++ List.replicate ((n - k) * 2) z)[k * 2]? = some z ∧ (l ++ List.replicate ((n - k) * 2) z)[k * 2 + 1]? = some z := by
  constructor
  · rw [List.getElem?_append_right (by omega), hl, List.getElem?_replicate]; simp; omega
  · rw [List.getElem?_append_right (by omega), hl, List.getElem?_replicate]; simp; omega
theorem fill_set2 {α : Type} {l : List α} {k n : Nat} {z u v : α} (hl : l.length = k * 2) (hk : k < n) : ((l ++ List.replicate ((n - k) * 2) z).set (k * 2) u).set (k * 2 + 1) v = (l ++ [u, v]) ++ List.replicate ((n - (k + 1)) * 2) z := by
  rw [List.set_append_right _ _ (by omega), List.set_append_right _ _ (by omega), hl, Nat.sub_self, show k * 2 + 1 - k * 2 = 1 from by omega, show (n - k) * 2 = (n - (k + 1)) * 2 + 1 + 1 from by omega, List.replicate_succ, List.replicate_succ]; simp

/-- The marks. -/
def mkAA : List Arw → Nat → List Arw
  | [], _ => []
  | p :: r, k => (markI p.1.length k, markI p.2.length (k + p.1.length)) :: mkAA r (k + p.1.length + p.2.length)
theorem mkAA_len : ∀ (l : List Arw) (k : Nat), (mkAA l k).length = l.length
  | [], _ => rfl
  | p :: r, k => by simp [mkAA, mkAA_len r]
theorem mkAA_flat : ∀ (l : List Arw) (k : Nat), flat (mkAA l k) = markII (flat l) k
  | [], _ => rfl
  | p :: r, k => by simp [mkAA, markII, mkAA_flat r]
theorem mark_at {l : List Arw} {j : Nat} {x y : List Int} (k : Nat) (h : l[j]? = some (x, y)) :
    (markII (flat l) k)[j * 2]? = some (markI x.length (k + total (flat (l.take j)))) ∧ (markII (flat l) k)[j * 2 + 1]? = some (markI y.length (k + total (flat (l.take j)) + x.length)) := by
  obtain ⟨h1, h2⟩ := flat_at h
  have h3 : total ((flat l).take (j * 2 + 1)) = total (flat (l.take j)) + x.length := by rw [total_take_succ h1, flat_take]
  refine ⟨by rw [markII_at k h1, ← flat_take], ?_⟩
  rw [markII_at k h2, h3]
  congr 2; omega

end Go.Proofs.Yteijmppjdljedaa
