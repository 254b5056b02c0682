/-
  Comparing simplices and finding one in a list: the program's functions (by slices.Equal, slices.Compare, slices.IndexFunc) and the reference's.
-/
import Derived.Test.YtgeoehnbpkediaaZInts
import Derived.Test.YtgeoehnbpkediaaZBase
set_option maxHeartbeats 8000000
set_option maxRecDepth 100000
namespace Go.Proofs.Ytgeoehnbpkediaa
open Go.RowKit
theorem equalI_c {S T : Nat → Prop} (a b : Option Addr) (n m cap cap' : Nat) (xs ys : List Int) (w : World) (h : RdI w S a n cap xs) (h' : RdI w T b m cap' ys) (hn : n ≤ 2097152) :
  Calls Try.prog 15 #[.slice a n cap, .slice b m cap'] w fun e w' => e = .returned (.bool (sameI xs ys)) ∧ Qt w w' := by
 have hl := h.len
 have hl' := h'.len
 by_cases hnm : n = m
 ·subst hnm
  go_enter Try.func15, Try.ntmps15
  go_wp2
  go_loopw [13] (fun i wr => Qt w wr ∧ ∃ k : Nat, k ≤ n ∧ i = .int .i64 k ∧ xs.take k = ys.take k) (fun i _ => n - (intOf i).toNat)
  case atStart => exact ⟨Qt.refl _, 0, Nat.zero_le _, rfl, rfl⟩
  case round =>
   obtain ⟨hG, k, hk, rfl, he⟩ := hrel
   have He := Lib.hid he; clear he
   by_cases hlt : k < n
   ·obtain ⟨b1, off1, x, rfl, hx, hxr, _, hbw, hc⟩ := (h.grow hG.grow).at hlt
    obtain ⟨b2, off2, y, rfl, hy, hyr, _, hbw2, hc2⟩ := (h'.grow hG.grow).at hlt
    have Hx := Lib.hid hx; clear hx
    have Hy := Lib.hid hy; clear hy
    by_cases hxy : x = y
    ·subst hxy
     go_wp2
     go_quiet (fail)
     go_wp2
     go_roundw
     case rel => exact ⟨hG.drewN _, k + 1, by omega, by go_num, by rw [take_succ Hx.out, take_succ Hy.out, He.out]⟩
     case measure => simp [intOf]; omega
    ·have hxy' : (x == y) = false := by simpa using hxy
     go_wp2
     go_quiet (fail)
     go_wp2
     go_ret
     refine ⟨ret_bool (Eq.symm (decide_eq_false ?_)), hG.drewN _⟩
     intro e; subst e
     exact hxy (Option.some.inj (Hx.out.symm.trans Hy.out))
   ·go_wp2
    go_ret
    have : k = n := by omega
    subst this
    refine ⟨ret_bool (Eq.symm (decide_eq_true ?_)), hG⟩
    have := He.out
    rwa [take_all hl, take_all hl'] at this
 ·have hb : ((n : Int) == (m : Int)) = false := by simp; omega
  go_enter Try.func15, Try.ntmps15
  go_wp2
  go_ret
  refine ⟨ret_bool (Eq.symm (decide_eq_false ?_)), Qt.refl _⟩
  intro e; subst e; omega
end Go.Proofs.Ytgeoehnbpkediaa

namespace Go.Proofs.Ytgeoehnbpkediaa
open Go.RowKit
end Go.Proofs.Ytgeoehnbpkediaa

namespace Go.Proofs.Ytgeoehnbpkediaa
open Go.RowKit
end Go.Proofs.Ytgeoehnbpkediaa

namespace Go.Proofs.Ytgeoehnbpkediaa
open Go.RowKit
theorem SepII.app {w0 w w2 w3 : World} {a a' b : Option Addr} {n cap' c : Nat} {vs : List Value} {xss : List (List Int)} {xs : List Int} (hI : Inner w (New w0 w) (blk a) vs xss) (hlo : ∀ g, blk a = some g → New w0 w g) (hg : Grow w w2)
  (hb : Own w2 3 1 b xs.length c (ints xs)) (hr : ∀ x ∈ xs, I64 x) (h0 : w0.heap.size ≤ w.heap.size) (hbn : ∀ q, blk b = some q → w.heap.size ≤ q) (ha : Apped w2 w3 26 1 a a' n cap' (vs ++ [.slice b xs.length c])) :
  SepII w3 (New w0 w3) a' n cap' (xss ++ [xs]) := by
 have hs2 := hg.size
 have hs3 := ha.keep.size
 have hI2 : Inner w2 (New w0 w3) (blk a) vs xss := (hI.grow hg).weak fun q _ hF hne => ⟨⟨hF.1, by have := hF.2; omega⟩, hne⟩
 have hI3 := hI2.snoc (b := b) (c := c) hb hr
  (fun q hq => ⟨⟨by have := hbn q hq; omega, by have := hb.lt hq; omega⟩, fun e => by have := (hlo q e).2; have := hbn q hq; omega⟩)
  (fun q hq v hv hvq => by have := (hI.lt hv hvq).1; have := hbn q hq; omega)
 refine ⟨⟨_, ha.own, hI3.move ha.keep fun q hq hF hne => ⟨hne, hF, ?_⟩⟩, fun g hg' => ⟨?_, ha.own.lt hg'⟩⟩
 ·rcases ha.new with e | ⟨g, e, hge⟩
  ·rw [e]; exact hne
  ·rw [e]; intro e2; have := Option.some.inj e2; omega
 ·rcases ha.new with e | ⟨g', e, hge⟩
  ·have := (hlo g (by rw [← e]; exact hg')).1; omega
  ·rw [e] at hg'; have := Option.some.inj hg'; omega
def facesB (l : List (List Int)) (k : Int) : List (List Int) := l.filter fun s => (s.length : Int) - 1 == k
end Go.Proofs.Ytgeoehnbpkediaa

namespace Go.Proofs.Ytgeoehnbpkediaa
open Go.RowKit
def few (l : List (List Int)) : Prop := ∀ k : Nat, k < 4 → (facesB l k).length ≤ 24
theorem RdII.pre {w : World} {S : Nat → Prop} {a : Option Addr} {n cap : Nat} {l : List (List Int)} (h : RdII w S a n cap l) {k : Nat} (hk : k ≤ n) : RdII w S a k cap (l.take k) := by
 obtain ⟨⟨vs, h1, h2⟩, hl⟩ := h
 have hvl := h1.len
 refine ⟨⟨vs.take k, ⟨by simp; omega, by have := h1.le; omega, h1.max, h1.nil, fun hne => ?_⟩, fun i xs hi => ?_⟩, by simp; omega⟩
 ·have : vs ≠ [] := by intro e; subst e; simp at hne
  obtain ⟨b, off, rfl, hS, hc⟩ := h1.addr this
  refine ⟨b, off, rfl, hS, fun j c hj => hc j c ?_⟩
  rw [List.getElem?_take] at hj
  split at hj
  ·exact hj
  ·cases hj
 ·rw [List.getElem?_take] at hi
  split at hi
  ·rename_i hik
   obtain ⟨b, c, h3, h4⟩ := h2 i xs hi
   exact ⟨b, c, by rw [List.getElem?_take, if_pos hik]; exact h3, h4⟩
  ·cases hi
end Go.Proofs.Ytgeoehnbpkediaa

namespace Go.Proofs.Ytgeoehnbpkediaa
open Go.RowKit
end Go.Proofs.Ytgeoehnbpkediaa
