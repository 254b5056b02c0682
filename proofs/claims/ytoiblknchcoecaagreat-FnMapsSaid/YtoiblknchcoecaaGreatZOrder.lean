/-
  Comparing simplices and finding one in a list: the program's functions (by slices.Equal, slices.Compare, slices.IndexFunc) and the reference's.
-/
import Derived.Test.YtoiblknchcoecaaGreatZInts
import Derived.Test.YtoiblknchcoecaaGreatZBase
set_option maxHeartbeats 8000000
set_option maxRecDepth 100000
namespace Go.Proofs.YtoiblknchcoecaaGreat
open Go.RowKit
end Go.Proofs.YtoiblknchcoecaaGreat

namespace Go.Proofs.YtoiblknchcoecaaGreat
open Go.RowKit
end Go.Proofs.YtoiblknchcoecaaGreat

namespace Go.Proofs.YtoiblknchcoecaaGreat
open Go.RowKit
end Go.Proofs.YtoiblknchcoecaaGreat

namespace Go.Proofs.YtoiblknchcoecaaGreat
open Go.RowKit
theorem SepII.app {w0 w w2 w3 : World} {a a' b : Option Addr} {n cap' c : Nat} {vs : List Value} {xss : List (List Int)} {xs : List Int} (hI : Inner w (New w0 w) (blk a) vs xss) (hlo : ∀ g, blk a = some g → New w0 w g) (hg : Grow w w2)
  (hb : Own w2 3 1 b xs.length c (ints xs)) (hr : ∀ x ∈ xs, I64 x) (h0 : w0.heap.size ≤ w.heap.size) (hbn : ∀ q, blk b = some q → w.heap.size ≤ q) (ha : Apped w2 w3 24 1 a a' n cap' (vs ++ [.slice b xs.length c])) :
  SepII w3 (New w0 w3) a' n cap' (xss ++ [xs]) := by
 have hs2 := hg.size
 have hs3 := ha.keep.size
 have hI2 : Inner w2 (New w0 w3) (blk a) vs xss := (hI.grow hg).weak fun q _ hF hne => ⟨⟨hF.1, by have := hF.2; omega⟩, hne⟩
 have hI3 := hI2.snoc (b := b) (c := c) hb hr
  (fun q hq => ⟨⟨by have := hbn q hq; omega, by have := hb.lt hq; omega⟩, fun e => by have := (hlo q e).2; have := hbn q hq; omega⟩)
  (fun q hq v hv hvq => by have := (hI.lt hv hvq).1; have := hbn q hq; omega)
 refine ⟨⟨_, ha.own, hI3.move ha.keep fun q hq hF hne => ⟨hne, hF, ?_⟩⟩, fun g hg' => ⟨?_, ha.own.lt hg'⟩⟩
 ·rcases ha.new with e | ⟨g, e, hge⟩
  ·rw [e]; exact hne
  ·rw [e]; intro e2; have := Option.some.inj e2; omega
 ·rcases ha.new with e | ⟨g', e, hge⟩
  ·have := (hlo g (by rw [← e]; exact hg')).1; omega
  ·rw [e] at hg'; have := Option.some.inj hg'; omega
end Go.Proofs.YtoiblknchcoecaaGreat

namespace Go.Proofs.YtoiblknchcoecaaGreat
open Go.RowKit
theorem RdII.pre {w : World} {S : Nat → Prop} {a : Option Addr} {n cap : Nat} {l : List (List Int)} (h : RdII w S a n cap l) {k : Nat} (hk : k ≤ n) : RdII w S a k cap (l.take k) := by
 obtain ⟨⟨vs, h1, h2⟩, hl⟩ := h
 have hvl := h1.len
 refine ⟨⟨vs.take k, ⟨by simp; omega, by have := h1.le; omega, h1.max, h1.nil, fun hne => ?_⟩, fun i xs hi => ?_⟩, by simp; omega⟩
 ·have : vs ≠ [] := by intro e; subst e; simp at hne
  obtain ⟨b, off, rfl, hS, hc⟩ := h1.addr this
  refine ⟨b, off, rfl, hS, fun j c hj => hc j c ?_⟩
  rw [List.getElem?_take] at hj
  split at hj
  ·exact hj
  ·cases hj
 ·rw [List.getElem?_take] at hi
  split at hi
  ·rename_i hik
   obtain ⟨b, c, h3, h4⟩ := h2 i xs hi
   exact ⟨b, c, by rw [List.getElem?_take, if_pos hik]; exact h3, h4⟩
  ·cases hi
end Go.Proofs.YtoiblknchcoecaaGreat

namespace Go.Proofs.YtoiblknchcoecaaGreat
open Go.RowKit
end Go.Proofs.YtoiblknchcoecaaGreat
