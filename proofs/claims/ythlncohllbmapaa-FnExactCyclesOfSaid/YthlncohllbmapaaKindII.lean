/-
  []int and [][]int as values: read, owned; the laws' helpers in one form for all kinds.
-/
import Derived.Test.YthlncohllbmapaaIntss
namespace Go.Proofs.Ythlncohllbmapaa
open Go.RowKit

/-! ### []int -/
def VI (w : World) (S : Nat → Prop) (v : Value) (xs : List Int) : Prop := ∃ a n c, v = .slice a n c ∧ RdI w S a n c xs
def OI (w : World) (F : Nat → Prop) (v : Value) (xs : List Int) : Prop := ∃ a n c, v = .slice a n c ∧ Own w 3 1 a n c (ints xs) ∧ (∀ x ∈ xs, I64 x) ∧ ∀ g, blk a = some g → F g
def bdI (xs : List Int) : Nat := xs.length
def cntI (xs : List Int) : Nat := xs.length
theorem VI.keep {S T : Nat → Prop} {w w' : World} {v : Value} {xs : List Int} (h : VI w S v xs) (hk : Keep T w w') (hST : ∀ b, b < w.heap.size → S b → T b) : VI w' S v xs := by
  obtain ⟨a, n, c, rfl, h⟩ := h; exact ⟨a, n, c, rfl, h.keep hk hST⟩
theorem VI.grow {S : Nat → Prop} {w w' : World} {v : Value} {xs : List Int} (h : VI w S v xs) (hk : Grow w w') : VI w' S v xs := h.keep hk fun _ _ _ => trivial
theorem VI.weak {S T : Nat → Prop} {w : World} {v : Value} {xs : List Int} (h : VI w S v xs) (hST : ∀ b, b < w.heap.size → S b → T b) : VI w T v xs := by
  obtain ⟨a, n, c, rfl, h⟩ := h; exact ⟨a, n, c, rfl, h.weak hST⟩
theorem OI.keep {F T : Nat → Prop} {w w' : World} {v : Value} {xs : List Int} (h : OI w F v xs) (hk : Keep T w w') (hT : ∀ b, b < w.heap.size → F b → T b) : OI w' F v xs := by
  obtain ⟨a, n, c, rfl, h1, h2, h3⟩ := h; exact ⟨a, n, c, rfl, h1.keep hk (fun g hg hlt => hT g hlt (h3 g hg)), h2, h3⟩
theorem OI.grow {F : Nat → Prop} {w w' : World} {v : Value} {xs : List Int} (h : OI w F v xs) (hk : Grow w w') : OI w' F v xs := h.keep hk fun _ _ _ => trivial
theorem OI.weak {F G : Nat → Prop} {w : World} {v : Value} {xs : List Int} (h : OI w F v xs) (hF : ∀ b, b < w.heap.size → F b → G b) : OI w G v xs := by
  obtain ⟨a, n, c, rfl, h1, h2, h3⟩ := h; exact ⟨a, n, c, rfl, h1, h2, fun g hg => hF g (h1.lt hg) (h3 g hg)⟩
theorem OI.rd {F S : Nat → Prop} {w : World} {v : Value} {xs : List Int} (h : OI w F v xs) (hS : ∀ b, F b → S b) : VI w S v xs := by
  obtain ⟨a, n, c, rfl, h1, h2, h3⟩ := h; exact ⟨a, n, c, rfl, h1.rdI (fun g hg => hS g (h3 g hg)) h2⟩
theorem to_I {S : Nat → Prop} {v : Value} {xs : List Int} {w : World} (h : VI w S v xs) (hb : bdI xs ≤ 1048576) : Calls Try.prog 26 #[v] w fun e w' => ∃ v', e = .returned v' ∧ OI w' (New w w') v' xs ∧ Grow w w' := by
  obtain ⟨a, n, c, rfl, h⟩ := h
  have hl := h.len
  refine (toIntS_c a n c xs w h (by unfold bdI at hb; omega)).mono ?_
  rintro e w' ⟨rfl, hO, hG⟩
  exact ⟨_, rfl, ⟨_, _, _, rfl, hO, h.rng, fun g hg => by have := hO.lt hg; simp at hg; subst hg; exact ⟨Nat.le_refl _, this⟩⟩, hG⟩
theorem eq_I {S T : Nat → Prop} {u v : Value} {xs : List Int} {w : World} (h : VI w S u xs) (h' : VI w T v xs) (hb : bdI xs ≤ 2097152) : Calls Try.prog 28 #[u, v] w fun e w' => e = .returned (.bool true) ∧ Grow w w' := by
  obtain ⟨a, n, c, rfl, h⟩ := h
  obtain ⟨a', n', c', rfl, h'⟩ := h'
  have hl := h.len
  refine (eqIntS_c a a' n n' c c' xs xs w h h' (by unfold bdI at hb; omega)).mono ?_
  rintro e w' ⟨rfl, hQ⟩
  exact ⟨by rw [sameI_self], hQ.grow⟩
def mkI (xs : List Int) (k : Nat) : List Int := markI xs.length k
theorem mark_I {F : Nat → Prop} {v : Value} {xs : List Int} {w : World} (k : Nat) (h : OI w F v xs) (hb : bdI xs + k ≤ 4294967296) : Calls Try.prog 40 #[v, .int .i64 k] w fun e w' =>
    e = .returned (.int .i64 ((k + cntI xs : Nat) : Int)) ∧ OI w' F v (mkI xs k) ∧ Keep (fun g => ¬ F g) w w' := by
  obtain ⟨a, n, c, rfl, h1, h2, h3⟩ := h
  have hl : xs.length = n := by simpa using h1.len
  subst hl
  refine (markIntS_c a _ c k xs w h1 hb).mono ?_
  rintro e w' ⟨rfl, hO, hK⟩
  exact ⟨rfl, ⟨_, _, _, rfl, hO, markI_rng hb, h3⟩, hK.mono fun q _ hq e => hq (h3 q e)⟩
theorem held_I {S : Nat → Prop} {v : Value} {xs : List Int} {w : World} (k : Nat) (h : VI w S v (mkI xs k)) (hb : bdI xs + k ≤ 4294967296) : Calls Try.prog 41 #[v, .int .i64 k] w fun e w' =>
    e = .returned (.int .i64 ((k + cntI xs : Nat) : Int)) ∧ Grow w w' := by
  obtain ⟨a, n, c, rfl, h⟩ := h
  have hl : xs.length = n := by simpa [mkI] using h.len
  subst hl
  refine (heldIntS_c a _ c k w h hb).mono ?_
  rintro e w' ⟨rfl, rfl⟩
  exact ⟨rfl, Grow.refl _⟩

/-! ### [][]int -/
def VII (w : World) (S : Nat → Prop) (v : Value) (l : List (List Int)) : Prop := ∃ a n c, v = .slice a n c ∧ RdII w S a n c l
def OII (w : World) (F : Nat → Prop) (v : Value) (l : List (List Int)) : Prop := ∃ a n c, v = .slice a n c ∧ SepII w F a n c l
def bdII (l : List (List Int)) : Nat := l.length + total l
def cntII (l : List (List Int)) : Nat := total l
theorem VII.keep {S T : Nat → Prop} {w w' : World} {v : Value} {l : List (List Int)} (h : VII w S v l) (hk : Keep T w w') (hST : ∀ b, b < w.heap.size → S b → T b) : VII w' S v l := by
  obtain ⟨a, n, c, rfl, h⟩ := h; exact ⟨a, n, c, rfl, h.keep hk hST⟩
theorem VII.grow {S : Nat → Prop} {w w' : World} {v : Value} {l : List (List Int)} (h : VII w S v l) (hk : Grow w w') : VII w' S v l := h.keep hk fun _ _ _ => trivial
theorem VII.weak {S T : Nat → Prop} {w : World} {v : Value} {l : List (List Int)} (h : VII w S v l) (hST : ∀ b, b < w.heap.size → S b → T b) : VII w T v l := by
  obtain ⟨a, n, c, rfl, h⟩ := h; exact ⟨a, n, c, rfl, h.weak hST⟩
theorem OII.keep {F T : Nat → Prop} {w w' : World} {v : Value} {l : List (List Int)} (h : OII w F v l) (hk : Keep T w w') (hT : ∀ b, b < w.heap.size → F b → T b) : OII w' F v l := by
  obtain ⟨a, n, c, rfl, h⟩ := h; exact ⟨a, n, c, rfl, h.keep hk hT⟩
theorem OII.grow {F : Nat → Prop} {w w' : World} {v : Value} {l : List (List Int)} (h : OII w F v l) (hk : Grow w w') : OII w' F v l := h.keep hk fun _ _ _ => trivial
theorem OII.weak {F G : Nat → Prop} {w : World} {v : Value} {l : List (List Int)} (h : OII w F v l) (hF : ∀ b, b < w.heap.size → F b → G b) : OII w G v l := by
  obtain ⟨a, n, c, rfl, h⟩ := h; exact ⟨a, n, c, rfl, h.weak hF⟩
theorem OII.rd {F S : Nat → Prop} {w : World} {v : Value} {l : List (List Int)} (h : OII w F v l) (hS : ∀ b, F b → S b) : VII w S v l := by
  obtain ⟨a, n, c, rfl, h⟩ := h; exact ⟨a, n, c, rfl, h.rdII hS⟩
theorem sz_II {S : Nat → Prop} {v : Value} {l : List (List Int)} {w : World} {left : Int} (h : VII w S v l) (h0 : 0 ≤ left) (h1 : left ≤ 1048576) : Calls Try.prog 13 #[v, .int .i64 left] w fun e w' => e = .returned (.int .i64 (szII' left l)) ∧ w = w' := by
  obtain ⟨a, n, c, rfl, h⟩ := h
  exact szIntSS_c a n c l left w h h0 h1
theorem sz_II_ok {l : List (List Int)} {left : Int} (h : 0 ≤ szII' left l) : szII' left l = left - bdII l := by
  have := szII'_ok h; unfold bdII; omega
theorem to_II {S : Nat → Prop} {v : Value} {l : List (List Int)} {w : World} (h : VII w S v l) (hb : bdII l ≤ 1048576) : Calls Try.prog 15 #[v] w fun e w' => ∃ v', e = .returned v' ∧ OII w' (New w w') v' l ∧ Grow w w' := by
  obtain ⟨a, n, c, rfl, h⟩ := h
  have hl := h.len
  unfold bdII at hb
  refine (toIntSS_c a n c l w h (by omega) (by omega)).mono ?_
  rintro e w' ⟨rfl, hO, hG⟩
  exact ⟨_, rfl, ⟨_, _, _, rfl, hO⟩, hG⟩
theorem eq_II {S T : Nat → Prop} {u v : Value} {l : List (List Int)} {w : World} (h : VII w S u l) (h' : VII w T v l) (hb : bdII l ≤ 2097152) : Calls Try.prog 17 #[u, v] w fun e w' => e = .returned (.bool true) ∧ Grow w w' := by
  obtain ⟨a, n, c, rfl, h⟩ := h
  obtain ⟨a', n', c', rfl, h'⟩ := h'
  have hl := h.len
  unfold bdII at hb
  refine (eqIntSS_t a a' n n' c c' l w h h' (by omega) (by omega)).mono ?_
  rintro e w' ⟨rfl, hQ⟩
  exact ⟨rfl, hQ.grow⟩
def mkII (l : List (List Int)) (k : Nat) : List (List Int) := markII l k
theorem mark_II {F : Nat → Prop} {v : Value} {l : List (List Int)} {w : World} (k : Nat) (h : OII w F v l) (hb : bdII l + k ≤ 4294967296) : Calls Try.prog 18 #[v, .int .i64 k] w fun e w' =>
    e = .returned (.int .i64 ((k + cntII l : Nat) : Int)) ∧ OII w' F v (mkII l k) ∧ Keep (fun g => ¬ F g) w w' := by
  obtain ⟨a, n, c, rfl, h⟩ := h
  have hl := h.len
  unfold bdII at hb
  refine (markIntSS_c a n c k l w h (by omega)).mono ?_
  rintro e w' ⟨rfl, hO, hK⟩
  exact ⟨rfl, ⟨_, _, _, rfl, hO⟩, hK⟩
end Go.Proofs.Ythlncohllbmapaa
