/-
  The laws' helpers on [][]int: copying, measuring, comparing, marking; and lists of lists that a call owns, each in a block of its own.
-/
import Derived.Test.YtlpkcdgkkjmagaaInts
namespace Go.Proofs.Ytlpkcdgkkjmagaa
open Go.RowKit

/-! ### Lists of lists, owned -/
/-- The slices vs own the lists xss, each a block of its own, of F and other than g. -/
structure Inner (w : World) (F : Nat → Prop) (g : Option Nat) (vs : List Value) (xss : List (List Int)) : Prop where
  len : vs.length = xss.length
  each : ∀ (i : Nat) (xs : List Int), xss[i]? = some xs → ∃ b c, vs[i]? = some (Value.slice b xs.length c) ∧ Own w 3 1 b xs.length c (ints xs) ∧ (∀ x ∈ xs, I64 x) ∧ ∀ h, blk b = some h → F h ∧ g ≠ some h
  apart : vs.Pairwise fun u v => ∀ h, u.ownBlock = some h → v.ownBlock ≠ some h

theorem ownBlock_slice (b : Option Addr) (n c : Nat) : (Value.slice b n c).ownBlock = blk b := by cases b <;> rfl

theorem Inner.nilw {w : World} {F : Nat → Prop} {g : Option Nat} : Inner w F g [] [] := ⟨rfl, fun i xs h => by simp at h, .nil⟩
theorem Inner.keep {w w' : World} {F T : Nat → Prop} {g : Option Nat} {vs : List Value} {xss : List (List Int)} (h : Inner w F g vs xss) (hk : Keep T w w') (hT : ∀ b, b < w.heap.size → F b → g ≠ some b → T b) : Inner w' F g vs xss := by
  refine ⟨h.len, fun i xs hi => ?_, h.apart⟩
  obtain ⟨b, c, h1, h2, h3, h4⟩ := h.each i xs hi
  exact ⟨b, c, h1, h2.keep hk (fun q hq hlt => hT q hlt (h4 q hq).1 (h4 q hq).2), h3, h4⟩
theorem Inner.grow {w w' : World} {F : Nat → Prop} {g : Option Nat} {vs : List Value} {xss : List (List Int)} (h : Inner w F g vs xss) (hk : Grow w w') : Inner w' F g vs xss := h.keep hk fun _ _ _ _ => trivial
theorem Inner.weak {w : World} {F G : Nat → Prop} {g g' : Option Nat} {vs : List Value} {xss : List (List Int)} (h : Inner w F g vs xss) (hF : ∀ b, b < w.heap.size → F b → g ≠ some b → G b ∧ g' ≠ some b) : Inner w G g' vs xss := by
  refine ⟨h.len, fun i xs hi => ?_, h.apart⟩
  obtain ⟨b, c, h1, h2, h3, h4⟩ := h.each i xs hi
  exact ⟨b, c, h1, h2, h3, fun q hq => hF q (h2.lt hq) (h4 q hq).1 (h4 q hq).2⟩
theorem Inner.move {w w' : World} {F G T : Nat → Prop} {g g' : Option Nat} {vs : List Value} {xss : List (List Int)} (h : Inner w F g vs xss) (hk : Keep T w w') (hT : ∀ b, b < w.heap.size → F b → g ≠ some b → T b ∧ G b ∧ g' ≠ some b) : Inner w' G g' vs xss := by
  refine ⟨h.len, fun i xs hi => ?_, h.apart⟩
  obtain ⟨b, c, h1, h2, h3, h4⟩ := h.each i xs hi
  exact ⟨b, c, h1, h2.keep hk (fun q hq hlt => (hT q hlt (h4 q hq).1 (h4 q hq).2).1), h3, fun q hq => (hT q (h2.lt hq) (h4 q hq).1 (h4 q hq).2).2⟩
theorem Inner.snoc {w : World} {F : Nat → Prop} {g : Option Nat} {vs : List Value} {xss : List (List Int)} (h : Inner w F g vs xss) {b : Option Addr} {c : Nat} {xs : List Int} (ho : Own w 3 1 b xs.length c (ints xs)) (hr : ∀ x ∈ xs, I64 x)
    (hb : ∀ q, blk b = some q → F q ∧ g ≠ some q) (hnew : ∀ q, blk b = some q → ∀ v ∈ vs, v.ownBlock ≠ some q) : Inner w F g (vs ++ [.slice b xs.length c]) (xss ++ [xs]) := by
  refine ⟨by simp [h.len], fun i ys hi => ?_, ?_⟩
  · by_cases hlt : i < xss.length
    · rw [List.getElem?_append_left hlt] at hi
      obtain ⟨b', c', h1, h2⟩ := h.each i ys hi
      exact ⟨b', c', by rw [List.getElem?_append_left (by rw [h.len]; exact hlt)]; exact h1, h2⟩
    · rw [List.getElem?_append_right (by omega)] at hi
      have : i - xss.length = 0 := by
        rcases Nat.eq_zero_or_pos (i - xss.length) with h0 | h0
        · exact h0
        · rw [List.getElem?_eq_none (by simp; omega)] at hi; cases hi
      rw [this] at hi
      obtain rfl : xs = ys := by simpa using hi
      have hi' : i = vs.length := by rw [h.len]; omega
      subst hi'
      exact ⟨b, c, by simp, ho, hr, hb⟩
  · rw [List.pairwise_append]
    refine ⟨h.apart, List.pairwise_singleton _ _, fun u hu v hv q hq => ?_⟩
    obtain rfl := List.mem_singleton.1 hv
    rw [ownBlock_slice]
    intro e
    exact hnew q e u hu hq
theorem Inner.lt {w : World} {F : Nat → Prop} {g : Option Nat} {vs : List Value} {xss : List (List Int)} (h : Inner w F g vs xss) {v : Value} (hv : v ∈ vs) {q : Nat} (hq : v.ownBlock = some q) : q < w.heap.size ∧ F q ∧ g ≠ some q := by
  obtain ⟨i, hi, rfl⟩ := List.mem_iff_getElem.1 hv
  have hi' : i < xss.length := by rw [← h.len]; exact hi
  obtain ⟨b, c, h1, h2, _, h4⟩ := h.each i _ (List.getElem?_eq_getElem hi')
  rw [List.getElem?_eq_getElem hi] at h1
  have h5 := Option.some.inj h1
  rw [h5, ownBlock_slice] at hq
  exact ⟨h2.lt hq, h4 q hq⟩
theorem Inner.rdII {w : World} {F S : Nat → Prop} {g : Option Nat} {a : Option Addr} {n cap : Nat} {vs : List Value} {xss : List (List Int)} (h : Inner w F g vs xss) (hr : Row w S 1 a n cap vs) (hS : ∀ b, F b → g ≠ some b → S b) : RdII w S a n cap xss := by
  refine ⟨⟨vs, hr, fun i xs hi => ?_⟩, by have := h.len; have := hr.len; omega⟩
  obtain ⟨b, c, h1, h2, h3, h4⟩ := h.each i xs hi
  exact ⟨b, c, h1, h2.rdI (fun q hq => hS q (h4 q hq).1 (h4 q hq).2) h3⟩

/-- '.slice a n cap' owns the lists xss: a block of its own for itself and for each list, all of F. -/
structure SepII (w : World) (F : Nat → Prop) (a : Option Addr) (n cap : Nat) (xss : List (List Int)) : Prop where
  own : ∃ vs, Own w 29 1 a n cap vs ∧ Inner w F (blk a) vs xss
  lo : ∀ g, blk a = some g → F g
theorem SepII.keep {w w' : World} {F T : Nat → Prop} {a : Option Addr} {n cap : Nat} {xss : List (List Int)} (h : SepII w F a n cap xss) (hk : Keep T w w') (hT : ∀ b, b < w.heap.size → F b → T b) : SepII w' F a n cap xss := by
  obtain ⟨⟨vs, h1, h2⟩, h3⟩ := h
  exact ⟨⟨vs, h1.keep hk (fun g hg hlt => hT g hlt (h3 g hg)), h2.keep hk (fun b hb hF _ => hT b hb hF)⟩, h3⟩
theorem SepII.grow {w w' : World} {F : Nat → Prop} {a : Option Addr} {n cap : Nat} {xss : List (List Int)} (h : SepII w F a n cap xss) (hk : Grow w w') : SepII w' F a n cap xss := h.keep hk fun _ _ _ => trivial
theorem SepII.weak {w : World} {F G : Nat → Prop} {a : Option Addr} {n cap : Nat} {xss : List (List Int)} (h : SepII w F a n cap xss) (hF : ∀ b, b < w.heap.size → F b → G b) : SepII w G a n cap xss := by
  obtain ⟨⟨vs, h1, h2⟩, h3⟩ := h
  exact ⟨⟨vs, h1, h2.weak fun b hb hFb hne => ⟨hF b hb hFb, hne⟩⟩, fun g hg => hF g (h1.lt hg) (h3 g hg)⟩
theorem SepII.rdII {w : World} {F S : Nat → Prop} {a : Option Addr} {n cap : Nat} {xss : List (List Int)} (h : SepII w F a n cap xss) (hS : ∀ b, F b → S b) : RdII w S a n cap xss := by
  obtain ⟨⟨vs, h1, h2⟩, h3⟩ := h
  exact h2.rdII (h1.row fun g hg => hS g (h3 g hg)) fun b hb _ => hS b hb
theorem SepII.len {w : World} {F : Nat → Prop} {a : Option Addr} {n cap : Nat} {xss : List (List Int)} (h : SepII w F a n cap xss) : xss.length = n := by
  obtain ⟨⟨vs, h1, h2⟩, h3⟩ := h
  have := h1.len; have := h2.len; omega

/-- The blocks that came between two worlds. -/
def New (w w' : World) (g : Nat) : Prop := w.heap.size ≤ g ∧ g < w'.heap.size

/-- How many numbers there are. -/
def total (xss : List (List Int)) : Nat := (xss.map List.length).sum
@[simp] theorem total_nil : total [] = 0 := rfl
@[simp] theorem total_cons (xs : List Int) (r : List (List Int)) : total (xs :: r) = xs.length + total r := by simp [total]
theorem total_append (l r : List (List Int)) : total (l ++ r) = total l + total r := by simp [total]
theorem total_take_succ {xss : List (List Int)} {k : Nat} {xs : List Int} (h : xss[k]? = some xs) : total (xss.take (k + 1)) = total (xss.take k) + xs.length := by
  rw [take_succ h, total_append]; simp
theorem total_take_le (xss : List (List Int)) (k : Nat) : total (xss.take k) ≤ total xss := by
  conv => rhs; rw [← List.take_append_drop k xss]
  rw [total_append]; omega
theorem total_at {xss : List (List Int)} {k : Nat} {xs : List Int} (h : xss[k]? = some xs) : total (xss.take k) + xs.length ≤ total xss := by
  rw [← total_take_succ h]; exact total_take_le _ _

/-- What is left of a measure; -1 for too much. -/
def szII (left : Int) : List (List Int) → Int
  | [] => left
  | xs :: r => if left < xs.length then -1 else szII (left - xs.length) r
def szII' (left : Int) (xss : List (List Int)) : Int := if left < xss.length then -1 else szII (left - xss.length) xss
theorem szII_ok {xss : List (List Int)} : ∀ {left : Int}, 0 ≤ szII left xss → szII left xss = left - total xss := by
  induction xss with
  | nil => intro left _; simp [szII]
  | cons xs r ih =>
    intro left h
    unfold szII at h ⊢
    by_cases hlt : left < xs.length
    · rw [if_pos hlt] at h; omega
    · rw [if_neg hlt] at h ⊢
      rw [ih h]; simp; omega
theorem szII'_ok {xss : List (List Int)} {left : Int} (h : 0 ≤ szII' left xss) : szII' left xss = left - xss.length - total xss ∧ (xss.length : Int) + total xss ≤ left := by
  unfold szII' at h ⊢
  by_cases hlt : left < xss.length
  · rw [if_pos hlt] at h; omega
  · rw [if_neg hlt] at h ⊢
    have := szII_ok h
    omega
theorem szII_drop {xss : List (List Int)} {k : Nat} {xs : List Int} (h : xss[k]? = some xs) (l : Int) : szII l (xss.drop k) = if l < xs.length then -1 else szII (l - xs.length) (xss.drop (k + 1)) := by
  obtain ⟨hk, rfl⟩ := List.getElem?_eq_some_iff.1 h
  rw [List.drop_eq_getElem_cons hk]; rfl

theorem sameI_t {xs ys : List Int} (h : xs = ys) : sameI xs ys = true := by simp [sameI, h]

/-- The numbers from k on, laid out as the lists xss. -/
def markII : List (List Int) → Nat → List (List Int)
  | [], _ => []
  | xs :: r, k => markI xs.length k :: markII r (k + xs.length)
@[simp] theorem markII_len : ∀ (xss : List (List Int)) (k : Nat), (markII xss k).length = xss.length
  | [], _ => rfl
  | xs :: r, k => by simp [markII, markII_len r]
@[simp] theorem markII_total : ∀ (xss : List (List Int)) (k : Nat), total (markII xss k) = total xss
  | [], _ => rfl
  | xs :: r, k => by simp [markII, markII_total r]
theorem markII_at : ∀ {xss : List (List Int)} {j : Nat} {xs : List Int} (k : Nat), xss[j]? = some xs → (markII xss k)[j]? = some (markI xs.length (k + total (xss.take j)))
  | [], j, xs, k, h => by simp at h
  | ys :: r, 0, xs, k, h => by simp at h; subst h; simp [markII]
  | ys :: r, j + 1, xs, k, h => by
    simp at h
    simp only [markII, List.getElem?_cons_succ, List.take_succ_cons, total_cons]
    rw [markII_at (k + ys.length) h, Nat.add_assoc]

theorem Inner.put {w w' : World} {F : Nat → Prop} {g : Option Nat} {vs : List Value} {xss : List (List Int)} (h : Inner w F g vs xss) {j : Nat} {b : Option Addr} {c : Nat} {xs ys : List Int} (hv : vs[j]? = some (Value.slice b xs.length c)) (hx : xss[j]? = some xs) (hlen : ys.length = xs.length)
    (ho : Own w' 3 1 b xs.length c (ints ys)) (hr : ∀ x ∈ ys, I64 x) (hk : Keep (fun q => blk b ≠ some q) w w') : Inner w' F g vs (xss.set j ys) := by
  have hjx := (List.getElem?_eq_some_iff.1 hx).1
  refine ⟨by simp [h.len], fun i zs hi => ?_, h.apart⟩
  by_cases hij : j = i
  · subst hij
    rw [List.getElem?_set_self hjx] at hi
    obtain rfl := Option.some.inj hi
    obtain ⟨b', c', h1, h2, h3, h4⟩ := h.each j xs hx
    rw [hv] at h1
    simp only [Option.some.injEq, Value.slice.injEq] at h1
    obtain ⟨rfl, _, rfl⟩ := h1
    exact ⟨b, c, by rw [hlen]; exact hv, by rw [hlen]; exact ho, hr, h4⟩
  · rw [List.getElem?_set_ne hij] at hi
    obtain ⟨b', c', h1, h2, h3, h4⟩ := h.each i zs hi
    refine ⟨b', c', h1, h2.keep hk (fun q hq _ e => ?_), h3, h4⟩
    obtain ⟨hi1, hi2⟩ := List.getElem?_eq_some_iff.1 h1
    obtain ⟨hj1, hj2⟩ := List.getElem?_eq_some_iff.1 hv
    have e1 : (vs[i]).ownBlock = some q := by rw [hi2, ownBlock_slice]; exact hq
    have e2 : (vs[j]).ownBlock = some q := by rw [hj2, ownBlock_slice]; exact e
    rcases Nat.lt_or_gt_of_ne hij with hlt | hlt
    · exact List.pairwise_iff_getElem.1 h.apart j i hj1 hi1 hlt q e2 e1
    · exact List.pairwise_iff_getElem.1 h.apart i j hi1 hj1 hlt q e1 e2

end Go.Proofs.Ytlpkcdgkkjmagaa
