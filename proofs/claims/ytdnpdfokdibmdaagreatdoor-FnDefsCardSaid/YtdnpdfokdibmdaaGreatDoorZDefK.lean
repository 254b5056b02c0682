/-
  The laws' helpers on definitions: measuring, copying, comparing.
-/
import Derived.Test.YtdnpdfokdibmdaaGreatDoorZDef
import Derived.Test.YtdnpdfokdibmdaaGreatDoorZInts
namespace Go.Proofs.YtdnpdfokdibmdaaGreatDoor
open Go.RowKit

def VDD (w : World) (S : Nat → Prop) (v : Value) (l : List Dfn) : Prop := ∃ a n c, v = .slice a n c ∧ RdD w S a n c l
def ODD (w : World) (F : Nat → Prop) (v : Value) (l : List Dfn) : Prop := ∃ a n c, v = .slice a n c ∧ SepD w F a n c l
def VD (w : World) (S : Nat → Prop) (v : Value) (d : Dfn) : Prop := ∃ a n c, v = .agg #[.string d.name, .int .i64 d.op, .string d.a, .string d.b, .int .i64 d.value.rows, .int .i64 d.value.cols, .slice a n c] ∧ RdI w S a n c d.value.cells ∧ DOk d
def OD (w : World) (F : Nat → Prop) (v : Value) (d : Dfn) : Prop := ∃ a n c, v = .agg #[.string d.name, .int .i64 d.op, .string d.a, .string d.b, .int .i64 d.value.rows, .int .i64 d.value.cols, .slice a n c] ∧ Own w 3 1 a n c (ints d.value.cells) ∧ (∀ x ∈ d.value.cells, I64 x) ∧ (∀ g, blk a = some g → F g) ∧ DOk d
def bdD (d : Dfn) : Nat := d.name.size + d.a.size + d.b.size + d.value.cells.length
def cntD (d : Dfn) : Nat := d.value.cells.length
def bdDs (l : List Dfn) : Nat := (l.map bdD).sum
def bdDD (l : List Dfn) : Nat := l.length + bdDs l
@[simp] theorem bdDs_nil : bdDs [] = 0 := rfl
@[simp] theorem bdDs_cons (d : Dfn) (l : List Dfn) : bdDs (d :: l) = bdD d + bdDs l := by simp [bdDs]
theorem bdDs_append (l r : List Dfn) : bdDs (l ++ r) = bdDs l + bdDs r := by simp [bdDs]
theorem bdDs_at {l : List Dfn} {k : Nat} {d : Dfn} (h : l[k]? = some d) : bdDs (l.take (k + 1)) = bdDs (l.take k) + bdD d ∧ bdDs (l.take k) + bdD d ≤ bdDs l := by
  have h1 : bdDs (l.take (k + 1)) = bdDs (l.take k) + bdD d := by rw [take_succ h, bdDs_append]; simp
  refine ⟨h1, ?_⟩
  rw [← h1]
  conv => rhs; rw [← List.take_append_drop (k + 1) l]
  rw [bdDs_append]; omega
theorem bdDs_take (l : List Dfn) (k : Nat) : bdDs (l.take k) ≤ bdDs l := by
  conv => rhs; rw [← List.take_append_drop k l]
  rw [bdDs_append]; omega

theorem VDD.keep {S T : Nat → Prop} {w w' : World} {v : Value} {l : List Dfn} (h : VDD w S v l) (hk : Keep T w w') (hST : ∀ b, b < w.heap.size → S b → T b) : VDD w' S v l := by
  obtain ⟨a, n, c, rfl, h⟩ := h; exact ⟨a, n, c, rfl, h.keep hk hST⟩
theorem VDD.grow {S : Nat → Prop} {w w' : World} {v : Value} {l : List Dfn} (h : VDD w S v l) (hk : Grow w w') : VDD w' S v l := h.keep hk fun _ _ _ => trivial
theorem VDD.weak {S T : Nat → Prop} {w : World} {v : Value} {l : List Dfn} (h : VDD w S v l) (hST : ∀ b, b < w.heap.size → S b → T b) : VDD w T v l := by
  obtain ⟨a, n, c, rfl, h⟩ := h; exact ⟨a, n, c, rfl, h.weak hST⟩
theorem ODD.keep {F T : Nat → Prop} {w w' : World} {v : Value} {l : List Dfn} (h : ODD w F v l) (hk : Keep T w w') (hT : ∀ b, b < w.heap.size → F b → T b) : ODD w' F v l := by
  obtain ⟨a, n, c, rfl, h⟩ := h; exact ⟨a, n, c, rfl, h.keep hk hT⟩
theorem ODD.grow {F : Nat → Prop} {w w' : World} {v : Value} {l : List Dfn} (h : ODD w F v l) (hk : Grow w w') : ODD w' F v l := h.keep hk fun _ _ _ => trivial
theorem ODD.weak {F G : Nat → Prop} {w : World} {v : Value} {l : List Dfn} (h : ODD w F v l) (hF : ∀ b, b < w.heap.size → F b → G b) : ODD w G v l := by
  obtain ⟨a, n, c, rfl, h⟩ := h; exact ⟨a, n, c, rfl, h.weak hF⟩
theorem ODD.rd {F S : Nat → Prop} {w : World} {v : Value} {l : List Dfn} (h : ODD w F v l) (hS : ∀ b, F b → S b) : VDD w S v l := by
  obtain ⟨a, n, c, rfl, h⟩ := h; exact ⟨a, n, c, rfl, h.rdD hS⟩
theorem VD.keep {S T : Nat → Prop} {w w' : World} {v : Value} {d : Dfn} (h : VD w S v d) (hk : Keep T w w') (hST : ∀ b, b < w.heap.size → S b → T b) : VD w' S v d := by
  obtain ⟨a, n, c, rfl, h, ho⟩ := h; exact ⟨a, n, c, rfl, h.keep hk hST, ho⟩
theorem VD.grow {S : Nat → Prop} {w w' : World} {v : Value} {d : Dfn} (h : VD w S v d) (hk : Grow w w') : VD w' S v d := h.keep hk fun _ _ _ => trivial
theorem VD.weak {S T : Nat → Prop} {w : World} {v : Value} {d : Dfn} (h : VD w S v d) (hST : ∀ b, b < w.heap.size → S b → T b) : VD w T v d := by
  obtain ⟨a, n, c, rfl, h, ho⟩ := h; exact ⟨a, n, c, rfl, h.weak hST, ho⟩
theorem OD.keep {F T : Nat → Prop} {w w' : World} {v : Value} {d : Dfn} (h : OD w F v d) (hk : Keep T w w') (hT : ∀ b, b < w.heap.size → F b → T b) : OD w' F v d := by
  obtain ⟨a, n, c, rfl, h1, h2, h3, ho⟩ := h; exact ⟨a, n, c, rfl, h1.keep hk (fun g hg hlt => hT g hlt (h3 g hg)), h2, h3, ho⟩
theorem OD.grow {F : Nat → Prop} {w w' : World} {v : Value} {d : Dfn} (h : OD w F v d) (hk : Grow w w') : OD w' F v d := h.keep hk fun _ _ _ => trivial
theorem OD.weak {F G : Nat → Prop} {w : World} {v : Value} {d : Dfn} (h : OD w F v d) (hF : ∀ b, b < w.heap.size → F b → G b) : OD w G v d := by
  obtain ⟨a, n, c, rfl, h1, h2, h3, ho⟩ := h; exact ⟨a, n, c, rfl, h1, h2, fun g hg => hF g (h1.lt hg) (h3 g hg), ho⟩
theorem OD.rd {F S : Nat → Prop} {w : World} {v : Value} {d : Dfn} (h : OD w F v d) (hS : ∀ b, F b → S b) : VD w S v d := by
  obtain ⟨a, n, c, rfl, h1, h2, h3, ho⟩ := h; exact ⟨a, n, c, rfl, h1.rdI (fun g hg => hS g (h3 g hg)) h2, ho⟩

/-- What is left of a measure; -1 for too much. -/
def szD (left : Int) (d : Dfn) : Int := if left < bdD d then -1 else left - bdD d
def szDr (left : Int) : List Dfn → Int
  | [] => left
  | d :: r => if left < bdD d then -1 else szDr (left - bdD d) r
def szDD (left : Int) (l : List Dfn) : Int := if left < l.length then -1 else szDr (left - l.length) l
theorem sz_D_ok {l : Dfn} {left : Int} (h : 0 ≤ szD left l) : szD left l = left - bdD l := by
  unfold szD at *; split at h
  · omega
  · rename_i h1; rw [if_neg h1]
theorem szDr_ok {l : List Dfn} : ∀ {left : Int}, 0 ≤ szDr left l → szDr left l = left - bdDs l := by
  induction l with
  | nil => intro left _; simp [szDr]
  | cons p r ih =>
    intro left h
    unfold szDr at h ⊢
    by_cases hlt : left < bdD p
    · rw [if_pos hlt] at h; omega
    · rw [if_neg hlt] at h ⊢
      rw [ih h]; simp; omega
theorem sz_DD_ok {l : List Dfn} {left : Int} (h : 0 ≤ szDD left l) : szDD left l = left - bdDD l := by
  unfold szDD at h ⊢; unfold bdDD
  by_cases hlt : left < l.length
  · rw [if_pos hlt] at h; omega
  · rw [if_neg hlt] at h ⊢
    have := szDr_ok h
    omega
theorem szDr_drop {l : List Dfn} {k : Nat} {d : Dfn} (h : l[k]? = some d) (q : Int) : szDr q (l.drop k) = if q < bdD d then -1 else szDr (q - bdD d) (l.drop (k + 1)) := by
  obtain ⟨hk, h1⟩ := List.getElem?_eq_some_iff.1 h
  rw [List.drop_eq_getElem_cons hk, h1]; rfl

end Go.Proofs.YtdnpdfokdibmdaaGreatDoor
