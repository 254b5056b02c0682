/-
  Rows of a matrix: split, taken, put together.
-/
import Derived.Test.YtneeelebnnfbeaaZHermY
import Derived.Test.YtneeelebnnfbeaaZHerm
import Derived.Test.YtneeelebnnfbeaaZIsMat
import Derived.Test.YtneeelebnnfbeaaZHermS
import Derived.Test.YtneeelebnnfbeaaZHermJ
set_option maxHeartbeats 8000000
set_option maxRecDepth 100000
namespace Go.Proofs.Ytneeelebnnfbeaa
open Go.RowKit
theorem Row.bAt6 {w : World} {S : Nat → Prop} {e : TypeId} {sz g : Nat} {cs : Array Value} (n : Nat) (hg : g = w.heap.size) (hn : n ≤ maxLen) (hs : cs.size = n * sz) (hS : ∀ b, S b) : Row (w.alloc (.cells cs e)) S sz (some ⟨g, 0, none⟩) n n cs.toList := by
 subst hg; exact Row.built n hn hs (hS _)
theorem rowL_len {m : List Int} {C R i : Nat} (hl : m.length = R * C) (hi : i < R) : (rowL m C i).length = C := by
 have := row_le hl hi
 unfold rowL; simp; omega
theorem rowL_at {m : List Int} {C R i k : Nat} (hl : m.length = R * C) (hi : i < R) (hk : k < C) : (rowL m C i)[k]? = some (cell m C i k) := by
 have := row_le hl hi
 unfold rowL cell
 rw [List.getElem?_take, if_pos hk, List.getElem?_drop]
 simp [List.getD, List.getElem?_eq_getElem (show i * C + k < m.length by omega)]
structure Pair (w0 w : World) (a u : Option Addr) (na nu ca cu : Nat) (xs ys : List Int) : Prop where
 oa : Own w 3 1 a na ca (ints xs)
 ou : Own w 3 1 u nu cu (ints ys)
 ne : ∀ q, blk a = some q → blk u ≠ some q
 la : ∀ q, blk a = some q → w0.heap.size ≤ q
 lu : ∀ q, blk u = some q → w0.heap.size ≤ q
theorem Pair.grow {w0 w w' : World} {a u : Option Addr} {na nu ca cu : Nat} {xs ys : List Int} (h : Pair w0 w a u na nu ca cu xs ys) (hk : Grow w w') : Pair w0 w' a u na nu ca cu xs ys := ⟨h.oa.grow hk, h.ou.grow hk, h.ne, h.la, h.lu⟩
theorem Pair.app {w0 w w' : World} {a u a' : Option Addr} {na nu ca cu n' c' : Nat} {xs ys zs : List Int} (h : Pair w0 w a u na nu ca cu xs ys) (hA : Apped w w' 3 1 a a' n' c' (ints xs ++ ints zs)) (h0 : w0.heap.size ≤ w.heap.size) : Pair w0 w' a' u n' nu c' cu (xs ++ zs) ys :=
 ⟨by have := hA.own; rwa [show ints xs ++ ints zs = ints (xs ++ zs) by simp [ints]] at this, h.ou.keep hA.keep (fun q hq _ e => h.ne q e hq), fun q hq e => by
  rcases hA.new with e2 | ⟨g, e2, hg⟩
  ·rw [e2] at hq; exact h.ne q hq e
  ·rw [e2] at hq; obtain rfl := Option.some.inj hq; have := h.ou.lt e; omega, hA.lo h0 h.la, h.lu⟩
theorem Pair.swap {w0 w : World} {a u : Option Addr} {na nu ca cu : Nat} {xs ys : List Int} (h : Pair w0 w a u na nu ca cu xs ys) : Pair w0 w u a nu na cu ca ys xs := ⟨h.ou, h.oa, fun q hq e => h.ne q e hq, h.lu, h.la⟩
end Go.Proofs.Ytneeelebnnfbeaa

namespace Go.Proofs.Ytneeelebnnfbeaa
open Go.RowKit
def basB (m : Mat) : Mat := match hermR m with
 | some s => { rows := lastN s.1 m.cols.toNat m.rows.toNat, cols := m.cols, cells := s.1.take (lastN s.1 m.cols.toNat m.rows.toNat * m.cols.toNat) }
 | none => { rows := 0, cols := 0, cells := [] }
end Go.Proofs.Ytneeelebnnfbeaa

namespace Go.Proofs.Ytneeelebnnfbeaa
open Go.RowKit
end Go.Proofs.Ytneeelebnnfbeaa
