/-
  The reference's round.
-/
import Derived.Test.YtgeoehnbpkediaaZSmith
import Derived.Test.YtgeoehnbpkediaaZHermW
set_option maxHeartbeats 8000000
set_option maxRecDepth 100000
namespace Go.Proofs.Ytgeoehnbpkediaa
open Go.RowKit
structure Thr (w : World) (a u v : Option Addr) (na nu nv ca cu cv : Nat) (s : SS) : Prop where
 oa : Own w 3 1 a na ca (ints s.1)
 ou : Own w 3 1 u nu cu (ints s.2.1)
 ov : Own w 3 1 v nv cv (ints s.2.2)
 nau : ∀ q, blk a = some q → blk u ≠ some q
 nav : ∀ q, blk a = some q → blk v ≠ some q
 nuv : ∀ q, blk u = some q → blk v ≠ some q
theorem Thr.keep {w w' : World} {T : Nat → Prop} {a u v : Option Addr} {na nu nv ca cu cv : Nat} {s : SS} (h : Thr w a u v na nu nv ca cu cv s) (hk : Keep T w w') (h1 : ∀ g, blk a = some g → T g) (h2 : ∀ g, blk u = some g → T g) (h3 : ∀ g, blk v = some g → T g) : Thr w' a u v na nu nv ca cu cv s :=
 ⟨h.oa.keep hk (fun g hg _ => h1 g hg), h.ou.keep hk (fun g hg _ => h2 g hg), h.ov.keep hk (fun g hg _ => h3 g hg), h.nau, h.nav, h.nuv⟩
theorem Thr.grow {w w' : World} {a u v : Option Addr} {na nu nv ca cu cv : Nat} {s : SS} (h : Thr w a u v na nu nv ca cu cv s) (hk : Grow w w') : Thr w' a u v na nu nv ca cu cv s := h.keep hk (fun _ _ => trivial) (fun _ _ => trivial) (fun _ _ => trivial)
theorem Thr.two {w : World} {a u v : Option Addr} {na nu nv ca cu cv : Nat} {s : SS} (h : Thr w a u v na nu nv ca cu cv s) : Two w a u na nu ca cu (s.1, s.2.1) := ⟨h.oa, h.ou, h.nau⟩
def Md (C R t : Nat) (p : Int) (rest : SS → Option (SS × Bool)) (res : Option (SS × Bool)) (s : SS) : Prop := (Ss C R s ∧ rest s = res ∧ cell s.1 C t t = p) ∨ (res = none ∧ Mk3 s)
theorem Md.next {C R t : Nat} {p : Int} {f g : SS → Option (SS × Bool)} {res : Option (SS × Bool)} {s : SS} (h : Md C R t p f res s) (hg : Ss C R s → cell s.1 C t t = p → f s = g s) : Md C R t p g res s := by
 rcases h with ⟨h1, h2, h3⟩ | h
 ·exact .inl ⟨h1, by rw [← hg h1 h3]; exact h2, h3⟩
 ·exact .inr h
def rest1 (C R t : Nat) (k : SS → Option (SS × Bool)) (i : Nat) (s : SS) : Option (SS × Bool) := (rowsP C R t (R - i) i s).bind k
def rest2 (C R t : Nat) (k : SS → Option (SS × Bool)) (j : Nat) (s : SS) : Option (SS × Bool) := (colsP C R t (C - j) j s).bind k
def rest3 (C R t : Nat) (s2 : SS) : Option (SS × Bool) :=
 if (colClean s2.1 C R t && rowClean s2.1 C t) = true then (match divRow s2.1 C R t with
  | some d => (rAdd3 C R t (t + 1 + d) 1 s2).map fun x => (x, false)
  | none => some (s2, true)) else some (s2, false)
theorem rest1_skip {C R t i : Nat} {k : SS → Option (SS × Bool)} {s : SS} (hi : i < R) (h : cell s.1 C i t = 0) : rest1 C R t k i s = rest1 C R t k (i + 1) s := by
 unfold rest1; rw [show R - i = (R - (i + 1)) + 1 by omega]; simp only [rowsP]; rw [if_neg (by simp [h])]
theorem rest1_do {C R t i : Nat} {k : SS → Option (SS × Bool)} {s : SS} (hi : i < R) (h : cell s.1 C i t ≠ 0) : rest1 C R t k i s = (rAdd3 C R i t (-(cell s.1 C i t / cell s.1 C t t)) s).bind (rest1 C R t k (i + 1)) := by
 unfold rest1; rw [show R - i = (R - (i + 1)) + 1 by omega]; simp only [rowsP]; rw [if_pos h, Option.bind_assoc]
theorem rest1_end {C R t : Nat} {k : SS → Option (SS × Bool)} {s : SS} : rest1 C R t k R s = k s := by unfold rest1; rw [Nat.sub_self]; rfl
theorem rest2_skip {C R t j : Nat} {k : SS → Option (SS × Bool)} {s : SS} (hj : j < C) (h : cell s.1 C t j = 0) : rest2 C R t k j s = rest2 C R t k (j + 1) s := by
 unfold rest2; rw [show C - j = (C - (j + 1)) + 1 by omega]; simp only [colsP]; rw [if_neg (by simp [h])]
theorem rest2_do {C R t j : Nat} {k : SS → Option (SS × Bool)} {s : SS} (hj : j < C) (h : cell s.1 C t j ≠ 0) : rest2 C R t k j s = (cAdd3 C R j t (-(cell s.1 C t j / cell s.1 C t t)) s).bind (rest2 C R t k (j + 1)) := by
 unfold rest2; rw [show C - j = (C - (j + 1)) + 1 by omega]; simp only [colsP]; rw [if_pos h, Option.bind_assoc]
theorem rest2_end {C R t : Nat} {k : SS → Option (SS × Bool)} {s : SS} : rest2 C R t k C s = k s := by unfold rest2; rw [Nat.sub_self]; rfl
theorem Md.addR {C R t i : Nat} {p q : Int} {f g : SS → Option (SS × Bool)} {res : Option (SS × Bool)} {s : SS} (hm : Hm3 C R s) (h : Md C R t p f res s) (htC : t < C) (hi : i < R) (hit : i ≠ t) (hq : -400000000 ≤ q ∧ q ≤ 400000000) (hf : Ss C R s → cell s.1 C t t = p → f s = (rAdd3 C R i t q s).bind g) : Md C R t p g res (rAdd3S C R i t q s) := by
 rcases h with ⟨h1, h2, h3⟩ | ⟨h1, h2⟩
 ·rcases rAdd3S_cases (i := i) (p := t) h1 hi hq with e | ⟨e, hk⟩
  ·have h4 := rAdd3_ss h1 e
   refine .inl ⟨h4.1, ?_, ?_⟩
   ·rw [hf h1 h3, e] at h2; exact h2
   ·rw [h4.2]; simp only; rw [cell_addR h1.la hi htC, if_neg (fun e => hit e.symm)]; exact h3
  ·exact .inr ⟨by rw [← h2, hf h1 h3, e]; rfl, hk⟩
 ·exact .inr ⟨h1, rAdd3S_mk hm hi h2⟩
theorem Md.addC {C R t j : Nat} {p q : Int} {f g : SS → Option (SS × Bool)} {res : Option (SS × Bool)} {s : SS} (hm : Hm3 C R s) (h : Md C R t p f res s) (ht : t < R) (htC : t < C) (hj : j < C) (hjt : j ≠ t) (hq : -400000000 ≤ q ∧ q ≤ 400000000) (hf : Ss C R s → cell s.1 C t t = p → f s = (cAdd3 C R j t q s).bind g) : Md C R t p g res (cAdd3S C R j t q s) := by
 rcases h with ⟨h1, h2, h3⟩ | ⟨h1, h2⟩
 ·rcases cAdd3S_cases (i := j) (p := t) h1 hj hq with e | ⟨e, hk⟩
  ·have h4 := cAdd3_ss h1 e
   refine .inl ⟨h4.1, ?_, ?_⟩
   ·rw [hf h1 h3, e] at h2; exact h2
   ·rw [h4.2]; simp only; rw [cell_cAdd ht htC, if_neg (fun e => hjt e.symm)]; exact h3
  ·exact .inr ⟨by rw [← h2, hf h1 h3, e]; rfl, hk⟩
 ·exact .inr ⟨h1, cAdd3S_mk hm h2⟩
def colCl (m : List Int) (C t : Nat) (n : Nat) : Bool := (List.range n).all fun d => cell m C (t + 1 + d) t == 0
def rowCl (m : List Int) (C t : Nat) (n : Nat) : Bool := (List.range n).all fun d => cell m C t (t + 1 + d) == 0
theorem colCl_succ (m : List Int) (C t n : Nat) : colCl m C t (n + 1) = (colCl m C t n && cell m C (t + 1 + n) t == 0) := by unfold colCl; rw [List.range_succ, List.all_append]; simp
theorem rowCl_succ (m : List Int) (C t n : Nat) : rowCl m C t (n + 1) = (rowCl m C t n && cell m C t (t + 1 + n) == 0) := by unfold rowCl; rw [List.range_succ, List.all_append]; simp
def Fnd (res : Option (SS × Bool)) (s : SS) (b : Bool) : Prop := res = some (s, b) ∨ (res = none ∧ Mk3 s)
theorem divRow_at {m : List Int} {C R t i j : Nat} (hi : t < i ∧ i < R) (hj : t < j ∧ j < C) (hb : ∀ i', t < i' → i' < i → rowBad m C t i' = false) (h : (cell m C i j).tmod (cell m C t t) ≠ 0) : divRow m C R t = some (i - (t + 1)) := by
 unfold divRow
 rw [List.find?_eq_some_iff_append]
 refine ⟨by rw [show t + 1 + (i - (t + 1)) = i by omega]; exact rowBad_iff.2 ⟨j, hj.1, hj.2, h⟩, List.range (i - (t + 1)), List.range' (i - (t + 1) + 1) (R - (t + 1) - (i - (t + 1)) - 1), ?_, fun d hd => ?_⟩
 ·rw [List.range_eq_range', List.range_eq_range', ← List.range'_succ, show i - (t + 1) = 0 + 1 * (i - (t + 1)) by omega]
  have := List.range'_append (s := 0) (m := i - (t + 1)) (n := R - (t + 1) - (i - (t + 1))) (step := 1)
  rw [show R - (t + 1) - (0 + 1 * (i - (t + 1))) - 1 + 1 = R - (t + 1) - (i - (t + 1)) by omega]
  simp only [Nat.zero_add, Nat.one_mul] at this ⊢
  rw [this]; congr 1; omega
 ·have := List.mem_range.1 hd
  rw [hb (t + 1 + d) (by omega) (by omega)]; rfl
theorem divRow_none {m : List Int} {C R t : Nat} (hb : ∀ i', t < i' → i' < R → rowBad m C t i' = false) : divRow m C R t = none := by
 unfold divRow
 rw [List.find?_eq_none]
 intro d hd
 have := List.mem_range.1 hd
 rw [hb (t + 1 + d) (by omega) (by omega)]; simp
theorem rowBad_no {m : List Int} {C t i : Nat} (h : ∀ j, t < j → j < C → (cell m C i j).tmod (cell m C t t) = 0) : rowBad m C t i = false := by
 rw [Bool.eq_false_iff]; intro e
 obtain ⟨j, h1, h2, h3⟩ := rowBad_iff.1 e
 exact h3 (h j h1 h2)
theorem fnd_off {C R t : Nat} {p : Int} {res : Option (SS × Bool)} {s : SS} (h : Md C R t p (rest3 C R t) res s) (hc : (colClean s.1 C R t && rowClean s.1 C t) = false) : Fnd res s false := by
 rcases h with ⟨h1, h2, h3⟩ | h
 ·refine .inl ?_
  rw [← h2]; unfold rest3; rw [hc]; rfl
 ·exact .inr h
theorem fnd_none {C R t : Nat} {p : Int} {res : Option (SS × Bool)} {s : SS} (h : Md C R t p (rest3 C R t) res s) (hc : (colClean s.1 C R t && rowClean s.1 C t) = true) (hb : ∀ i', t < i' → i' < R → ∀ j', t < j' → j' < C → cell s.1 C i' j' = badN ∨ (cell s.1 C i' j').tmod p = 0) : Fnd res s true := by
 rcases h with ⟨h1, h2, h3⟩ | h
 ·refine .inl ?_
  rw [← h2]; unfold rest3
  rw [hc, if_pos rfl, divRow_none (fun i' q1 q2 => rowBad_no fun j' q3 q4 => by rw [h3]; exact (hb i' q1 q2 j' q3 q4).resolve_left (num_ne (cell_num h1.na C i' j')))]
 ·exact .inr h
end Go.Proofs.Ytgeoehnbpkediaa

namespace Go.Proofs.Ytgeoehnbpkediaa
open Go.RowKit
end Go.Proofs.Ytgeoehnbpkediaa
