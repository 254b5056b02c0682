/-
  CollapseOf: the program's and the reference's take away, again and again, the first simplex that is a face of just one, and that one.
-/
import Derived.Test.YteijmppjdljedaaZOrder
import Derived.Test.YteijmppjdljedaaZFreeFace
namespace Go.Proofs.Yteijmppjdljedaa
open Go.RowKit

/-- Without the places i and j; the first element stands at place k. -/
def dropIJ {α : Type} (i j : Int) : Nat → List α → List α
  | _, [] => []
  | k, x :: r => if (k : Int) ≠ i ∧ (k : Int) ≠ j then x :: dropIJ i j (k + 1) r else dropIJ i j (k + 1) r
theorem dropIJ_append {α : Type} (i j : Int) : ∀ (k : Nat) (l r : List α), dropIJ i j k (l ++ r) = dropIJ i j k l ++ dropIJ i j (k + l.length) r
  | k, [], r => rfl
  | k, x :: l, r => by
    simp only [List.cons_append, dropIJ, List.length_cons]
    rw [dropIJ_append i j (k + 1) l r, show k + 1 + l.length = k + (l.length + 1) from by omega]
    split <;> rfl
theorem dropIJ_len {α : Type} (i j : Int) : ∀ (k : Nat) (l : List α), (dropIJ i j k l).length ≤ l.length
  | _, [] => Nat.le_refl _
  | k, x :: l => by
    have := dropIJ_len i j (k + 1) l
    simp only [dropIJ]; split <;> simp <;> omega
theorem dropIJ_lt {α : Type} (i j : Int) : ∀ (k : Nat) (l : List α), (k : Int) ≤ i → i < k + l.length → (dropIJ i j k l).length < l.length
  | k, [], h1, h2 => by simp at h2; omega
  | k, x :: l, h1, h2 => by
    simp only [dropIJ]
    simp at h2
    by_cases e : (k : Int) = i
    · rw [if_neg (by omega)]
      have := dropIJ_len i j (k + 1) l; simp; omega
    · have := dropIJ_lt i j (k + 1) l (by omega) (by omega)
      split <;> simp <;> omega
theorem dropIJ_take_succ {α : Type} {i j : Int} {l : List α} {k : Nat} {x : α} (h : l[k]? = some x) : dropIJ i j 0 (l.take (k + 1)) = dropIJ i j 0 (l.take k) ++ (if (k : Int) ≠ i ∧ (k : Int) ≠ j then [x] else []) := by
  have hk := (List.getElem?_eq_some_iff.1 h).1
  rw [take_succ h, dropIJ_append, Nat.zero_add, show (l.take k).length = k from by simp; omega]
  simp only [dropIJ]
theorem dropIJ_total (i j : Int) : ∀ (k : Nat) (l : List (List Int)), total (dropIJ i j k l) ≤ total l
  | _, [] => Nat.le_refl _
  | k, x :: l => by
    have := dropIJ_total i j (k + 1) l
    simp only [dropIJ]; split <;> simp <;> omega
theorem mem_dropIJ {α : Type} {i j : Int} {x : α} : ∀ {k : Nat} {l : List α}, x ∈ dropIJ i j k l → x ∈ l
  | _, [], h => by simp [dropIJ] at h
  | k, y :: l, h => by
    simp only [dropIJ] at h
    split at h
    · rcases List.mem_cons.1 h with rfl | h
      · exact List.mem_cons_self
      · exact List.mem_cons_of_mem _ (mem_dropIJ h)
    · exact List.mem_cons_of_mem _ (mem_dropIJ h)

theorem Inner.dropTo {w : World} {F : Nat → Prop} {g : Option Nat} {vs : List Value} {xss : List (List Int)} (h : Inner w F g vs xss) (i j : Int) : ∀ k, k ≤ xss.length → Inner w F g (dropIJ i j 0 (vs.take k)) (dropIJ i j 0 (xss.take k))
  | 0, _ => by simpa [dropIJ] using Inner.nilw
  | k + 1, hk => by
    have ih := Inner.dropTo h i j k (by omega)
    have hx : xss[k]? = some xss[k] := List.getElem?_eq_getElem (by omega)
    obtain ⟨b, c, hv, ho, hr, hb⟩ := h.each k _ hx
    rw [dropIJ_take_succ hx, dropIJ_take_succ hv]
    split
    · refine ih.snoc ho hr hb fun q hq v hvm hvq => ?_
      have hvm' := mem_dropIJ hvm
      obtain ⟨p, hp, rfl⟩ := List.mem_iff_getElem.1 hvm'
      have hp' : p < k := by simp at hp; omega
      have hpl : p < vs.length := by simp at hp; omega
      have hkl := (List.getElem?_eq_some_iff.1 hv).1
      have := List.pairwise_iff_getElem.1 h.apart p k hpl hkl hp' q (by simpa using hvq)
      rw [(List.getElem?_eq_some_iff.1 hv).2, ownBlock_slice] at this
      exact this hq
    · simpa using ih
theorem Inner.dropIJ {w : World} {F : Nat → Prop} {g : Option Nat} {vs : List Value} {xss : List (List Int)} (h : Inner w F g vs xss) (i j : Int) : Inner w F g (dropIJ i j 0 vs) (dropIJ i j 0 xss) := by
  have := h.dropTo i j xss.length (Nat.le_refl _)
  rwa [List.take_length, ← h.len, List.take_length] at this

/-- The collapsing, n times at most. -/
def collN : Nat → List (List Int) → List (List Int)
  | 0, l => l
  | n + 1, l => if (freeB l).1 < 0 then l else collN n (dropIJ (freeB l).1 (freeB l).2 0 l)
def collB (l : List (List Int)) : List (List Int) := collN l.length l
theorem free_lt (l : List (List Int)) (h : ¬ (freeB l).1 < 0) : (dropIJ (freeB l).1 (freeB l).2 0 l).length < l.length := by
  have := freeFrom_rng l l.length 0
  unfold freeB at *
  exact dropIJ_lt _ _ 0 l (by omega) (by simpa using this.2.1)
theorem collN_more : ∀ (n : Nat) (l : List (List Int)), l.length ≤ n → collN n l = collN l.length l
  | n, l, h => by
    induction n using Nat.strongRecOn generalizing l with
    | _ n ih =>
      cases n with
      | zero =>
        have : l = [] := List.eq_nil_of_length_eq_zero (by omega)
        subst this; rfl
      | succ n =>
        by_cases hf : (freeB l).1 < 0
        · cases hl : l.length with
          | zero => simp only [collN, if_pos hf]
          | succ m => simp only [collN, if_pos hf]
        · have hlt := free_lt l hf
          cases hl : l.length with
          | zero => omega
          | succ m =>
            simp only [collN, if_neg hf]
            rw [ih n (by omega) _ (by omega)]
            rw [ih m (by omega) _ (by omega)]
theorem collB_stop {l : List (List Int)} (h : (freeB l).1 < 0) : collB l = l := by
  unfold collB
  cases hl : l.length with
  | zero => rfl
  | succ m => simp only [collN, if_pos h]
theorem collB_go {l : List (List Int)} (h : ¬ (freeB l).1 < 0) : collB l = collB (dropIJ (freeB l).1 (freeB l).2 0 l) := by
  have hlt := free_lt l h
  unfold collB
  cases hl : l.length with
  | zero => omega
  | succ m =>
    simp only [collN, if_neg h]
    exact collN_more m _ (by omega)
theorem collN_le : ∀ (n : Nat) (l : List (List Int)), (collN n l).length ≤ l.length ∧ total (collN n l) ≤ total l
  | 0, l => ⟨Nat.le_refl _, Nat.le_refl _⟩
  | n + 1, l => by
    have h1 := collN_le n (dropIJ (freeB l).1 (freeB l).2 0 l)
    have h2 := dropIJ_len (freeB l).1 (freeB l).2 0 l
    have h3 := dropIJ_total (freeB l).1 (freeB l).2 0 l
    simp only [collN]; split <;> omega
open Classical in
noncomputable def collapseB (l : List (List Int)) : List (List Int) := if isCplxB l = true then collB l else []
theorem collapseB_bd (l : List (List Int)) : bdII (collapseB l) ≤ bdII l := by
  unfold collapseB
  split
  · have := collN_le l.length l; unfold bdII collB; omega
  · simp [bdII]

/-- The copy of a list, an owned list that grows: what is appended is a copy of the next one. -/
theorem SepII.copied {w0 w w2 w3 : World} {a a2 a3 : Option Addr} {n c2 c3 : Nat} {vs : List Value} {xss : List (List Int)} {xs : List Int} (hI : Inner w (New w0 w) (blk a) vs xss) (hlo : ∀ g, blk a = some g → New w0 w g) (hO2 : Own w2 3 1 a2 xs.length c2 (ints xs)) (hr : ∀ x ∈ xs, I64 x)
    (hG : Grow w0 w) (hG2 : Grow w w2) (hB2 : ∀ q, blk a2 = some q → w.heap.size ≤ q) (ha : Apped (w2.alloc (.cells #[.slice a2 xs.length c2] 32)) w3 32 1 a a3 n c3 (vs ++ [.slice a2 xs.length c2])) :
    SepII w3 (New w0 w3) a3 n c3 (xss ++ [xs]) ∧ Grow w0 w3 :=
  ⟨SepII.app hI hlo (hG2.alloc _ _) (hO2.grow ((Grow.refl _).alloc _ _)) hr hG.size hB2 ha, ha.grow (hG.trans (hG2.alloc _ _)) (fun g hg => (hlo g hg).1)⟩

/-- The next list: it holds some of the slices that are there. -/
theorem SepII.picked {w0 wb w : World} {a b : Option Addr} {n c : Nat} {vs : List Value} {xss : List (List Int)} {i j : Int} (hI : Inner wb (New w0 wb) (blk a) vs xss) (hG : Grow wb w) (h0 : w0.heap.size ≤ wb.heap.size)
    (hO : Own w 32 1 b n c (dropIJ i j 0 vs)) (hB : ∀ q, blk b = some q → wb.heap.size ≤ q) : SepII w (New w0 w) b n c (dropIJ i j 0 xss) := by
  have hs := hG.size
  refine ⟨⟨_, hO, ((hI.dropIJ i j).move hG fun q hq hF hne => ⟨trivial, ⟨hF.1, by omega⟩, fun e => by have := hB q e; omega⟩)⟩, fun g hg => ⟨by have := hB g hg; omega, hO.lt hg⟩⟩


def lenV : Value → Nat
  | .slice _ n _ => n
  | _ => 0

end Go.Proofs.Yteijmppjdljedaa
