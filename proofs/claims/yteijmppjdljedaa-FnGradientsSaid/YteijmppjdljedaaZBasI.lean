/-
  Rows of a matrix: split, taken, put together.
-/
import Derived.Test.YteijmppjdljedaaZHermY
import Derived.Test.YteijmppjdljedaaZHerm
import Derived.Test.YteijmppjdljedaaZRdc
import Derived.Test.YteijmppjdljedaaZHermS
import Derived.Test.YteijmppjdljedaaZHermJ
namespace Go.Proofs.Yteijmppjdljedaa
open Go.RowKit

theorem Row.bAt6 {w : World} {S : Nat → Prop} {e : TypeId} {sz g : Nat} {cs : Array Value} (n : Nat) (hg : g = w.heap.size) (hn : n ≤ maxLen) (hs : cs.size = n * sz) (hS : ∀ b, S b) : Row (w.alloc (.cells cs e)) S sz (some ⟨g, 0, none⟩) n n cs.toList := by
  subst hg; exact Row.built n hn hs (hS _)
theorem rowL_len {m : List Int} {C R i : Nat} (hl : m.length = R * C) (hi : i < R) : (rowL m C i).length = C := by
  have := row_le hl hi
  unfold rowL; simp; omega
theorem rowL_at {m : List Int} {C R i k : Nat} (hl : m.length = R * C) (hi : i < R) (hk : k < C) : (rowL m C i)[k]? = some (cell m C i k) := by
  have := row_le hl hi
  unfold rowL cell
  rw [List.getElem?_take, if_pos hk, List.getElem?_drop]
  simp [List.getD, List.getElem?_eq_getElem (show i * C + k < m.length by omega)]
theorem zero_row {m : List Int} {C R i : Nat} (hl : m.length = R * C) (hi : i < R) : zeroL (rowL m C i) = !nzB m C i := by
  cases h : nzB m C i with
  | true =>
    obtain ⟨k, hk, hne⟩ := nzB_iff.1 h
    exact zeroL_no (rowL_at hl hi hk) (by simpa using hne)
  | false =>
    refine zeroL_yes fun x hx => ?_
    obtain ⟨k, hk, rfl⟩ := List.mem_iff_getElem.1 hx
    have hkC : k < C := by rw [rowL_len hl hi] at hk; exact hk
    have h1 := rowL_at hl hi hkC
    rw [List.getElem?_eq_getElem hk] at h1
    rw [Option.some.inj h1]
    by_cases e : cell m C i k = 0
    · simp [e]
    · rw [nzB_iff.2 ⟨k, hkC, e⟩] at h; cases h
set_option maxHeartbeats 1000000 in
set_option maxRecDepth 100000 in
theorem rowRd_c {S : Nat → Prop} (a : Option Addr) (n cp C R i : Nat) (m : List Int) (w : World) (h : RdI w S a n cp m) (hl : m.length = R * C) (hi : i < R) (hR : R ≤ 24) (hC : C ≤ 24) :
    Calls Try.prog 59 #[.agg #[.int .i64 R, .int .i64 C, .slice a n cp], .int .i64 i] w fun e w' => ∃ a1 c1, e = .returned (.slice a1 C c1) ∧ RdI w' S a1 C c1 (rowL m C i) ∧ Grow w w' := by
  have hnl := h.len
  have hle := h.row.le
  have hri := row_le hl hi
  have u1 := mul_wrap (i := i) (c := C) (by omega) (by omega)
  have u3 : IntKind.i64.wrap (((i : Int) + 1) * C) = ((i : Int) + 1) * C := by
    have := mul_wrap (i := i + 1) (c := C) (by omega) (by omega)
    simpa using this
  have r := T_ints.atLH (a := a) (n := n) (cap := cp) (l := i * C) (k := i * C + C) (i := (i : Int) * C) (j := ((i : Int) + 1) * C) (by simp) (by rw [Int.add_mul]; simp) (by omega) (by omega)
  have rs := h.sub (l := i * C) (k := i * C + C) (by omega) (by omega)
  rw [show i * C + C - i * C = C by omega] at r rs
  have Hl := Lib.hid hl; have Hnl := Lib.hid hnl; clear hl hnl hri
  have hG := (Grow.refl w).alloc #[.int .i64 (R : Int), .int .i64 (C : Int), .slice a n cp] 65
  go_enter Try.func59, Try.ntmps59
  go_wp2
  go_ret
  exact ⟨_, _, rfl, rs.grow hG, hG⟩
theorem RdCells.one1 {S : Nat → Prop} {w : World} {a1 : Option Addr} {n1 c1 : Nat} {x : List Int} (h1 : RdI w S a1 n1 c1 x) : RdCells w S [.slice a1 n1 c1] [x] := fun i xs hi => by
  have e1 := h1.len
  subst e1
  match i, hi with
  | 0, hi => simp at hi; subst hi; exact ⟨a1, c1, rfl, h1⟩
def natI (l : List Nat) : List Int := l.map Int.ofNat
/-- Two rows of integers in memory, apart, both new. -/
structure Pair (w0 w : World) (a u : Option Addr) (na nu ca cu : Nat) (xs ys : List Int) : Prop where
  oa : Own w 3 1 a na ca (ints xs)
  ou : Own w 3 1 u nu cu (ints ys)
  ne : ∀ q, blk a = some q → blk u ≠ some q
  la : ∀ q, blk a = some q → w0.heap.size ≤ q
  lu : ∀ q, blk u = some q → w0.heap.size ≤ q
theorem Pair.grow {w0 w w' : World} {a u : Option Addr} {na nu ca cu : Nat} {xs ys : List Int} (h : Pair w0 w a u na nu ca cu xs ys) (hk : Grow w w') : Pair w0 w' a u na nu ca cu xs ys := ⟨h.oa.grow hk, h.ou.grow hk, h.ne, h.la, h.lu⟩
theorem Pair.app {w0 w w' : World} {a u a' : Option Addr} {na nu ca cu n' c' : Nat} {xs ys zs : List Int} (h : Pair w0 w a u na nu ca cu xs ys) (hA : Apped w w' 3 1 a a' n' c' (ints xs ++ ints zs)) (h0 : w0.heap.size ≤ w.heap.size) : Pair w0 w' a' u n' nu c' cu (xs ++ zs) ys :=
  ⟨by have := hA.own; rwa [show ints xs ++ ints zs = ints (xs ++ zs) by simp [ints]] at this, h.ou.keep hA.keep (fun q hq _ e => h.ne q e hq), fun q hq e => by
    rcases hA.new with e2 | ⟨g, e2, hg⟩
    · rw [e2] at hq; exact h.ne q hq e
    · rw [e2] at hq; obtain rfl := Option.some.inj hq; have := h.ou.lt e; omega, hA.lo h0 h.la, h.lu⟩
theorem Pair.swap {w0 w : World} {a u : Option Addr} {na nu ca cu : Nat} {xs ys : List Int} (h : Pair w0 w a u na nu ca cu xs ys) : Pair w0 w u a nu na cu ca ys xs := ⟨h.ou, h.oa, fun q hq e => h.ne q e hq, h.lu, h.la⟩
theorem natI_succ {f : Nat → Bool} {k : Nat} : natI ((List.range (k + 1)).filter f) = natI ((List.range k).filter f) ++ (if f k = true then [(k : Int)] else []) := by
  unfold natI
  rw [List.range_succ, List.filter_append, List.map_append]
  congr 1
  rw [List.filter_cons]
  split <;> simp
theorem natI_rng {l : List Nat} (h : ∀ x ∈ l, x ≤ 1000) : ∀ x ∈ natI l, I64 x := fun x hx => by
  obtain ⟨y, hy, rfl⟩ := List.mem_map.1 hx
  have := h y hy; unfold I64; simp; omega
theorem total_rows {m : List Int} {C R : Nat} (hl : m.length = R * C) : ∀ {js : List Nat}, (∀ x ∈ js, x < R) → total (js.map (rowL m C)) = js.length * C
  | [], _ => by simp [total]
  | j :: js, h => by
    have h1 := rowL_len hl (h j (by simp))
    have h2 := total_rows hl (js := js) fun x hx => h x (by simp [hx])
    rw [List.map_cons, total_cons, h1, h2, List.length_cons, Nat.add_mul]; omega
end Go.Proofs.Yteijmppjdljedaa

namespace Go.Proofs.Yteijmppjdljedaa
open Go.RowKit

def basOk (m : Mat) : Bool := hermOk m
def basB (m : Mat) : Mat := match hermR m with
  | some s => { rows := lastN s.1 m.cols.toNat m.rows.toNat, cols := m.cols, cells := s.1.take (lastN s.1 m.cols.toNat m.rows.toNat * m.cols.toNat) }
  | none => { rows := 0, cols := 0, cells := [] }
def pre0 (m : List Int) (C i k : Nat) : Bool := (List.range k).any fun q => cell m C i q != 0
theorem pre0_succ (m : List Int) (C i k : Nat) : pre0 m C i (k + 1) = (pre0 m C i k || (cell m C i k != 0)) := by unfold pre0; rw [List.range_succ, List.any_append]; simp
def rowsIn (m : List Int) (C i k : Nat) : Nat := if pre0 m C i k = true then i + 1 else lastN m C i
theorem lastN_le (m : List Int) (C : Nat) : ∀ n, lastN m C n ≤ n
  | 0 => Nat.le_refl _
  | n + 1 => by have := lastN_le m C n; simp only [lastN]; split <;> omega
theorem rowsIn_le (m : List Int) (C i k : Nat) : rowsIn m C i k ≤ i + 1 := by have := lastN_le m C i; unfold rowsIn; split <;> omega
theorem basB_none {m : Mat} (h : hermR m = none) : basOk m = false ∧ basB m = { rows := 0, cols := 0, cells := [] } := by
  unfold basOk basB; rw [h]; exact ⟨(hermR_none h).1, rfl⟩
theorem hermR_mat {R C : Nat} {cells : List Int} (hB : isMatB { rows := (R : Int), cols := (C : Int), cells := cells } = true) : hermR { rows := (R : Int), cols := (C : Int), cells := cells } = herm cells R C := by
  unfold hermR; rw [hB]; rfl
theorem basB_some {R C : Nat} {cells : List Int} {s : HS} (hB : isMatB { rows := (R : Int), cols := (C : Int), cells := cells } = true) (h : herm cells R C = some s) :
    basOk { rows := (R : Int), cols := (C : Int), cells := cells } = true ∧ basB { rows := (R : Int), cols := (C : Int), cells := cells } = { rows := (lastN s.1 C R : Nat), cols := (C : Int), cells := s.1.take (lastN s.1 C R * C) } := by
  have h1 := hermR_mat hB
  rw [h] at h1
  unfold basOk basB; rw [h1]; exact ⟨(hermR_some h1).1, rfl⟩
end Go.Proofs.Yteijmppjdljedaa

namespace Go.Proofs.Yteijmppjdljedaa
open Go.RowKit

theorem herm_rows {cells : List Int} {R C : Nat} (hl : cells.length = R * C) (hm : NumL cells) {s : HS} (h : herm cells R C = some s) :
    lastN s.1 C R ≤ R ∧ (List.range R).filter (nzB s.1 C) = List.range (lastN s.1 C R) ∧ ((List.range (lastN s.1 C R)).map (rowL s.1 C)).flatten = s.1.take (lastN s.1 C R * C) := by
  obtain ⟨hs, t, ht, hE⟩ := herm_spec hl hm h
  have e := ech_last hE R (Nat.le_refl _) ht
  rw [e]
  exact ⟨ht, ech_full hE ht, flat_rows (by rw [hs.la]; exact Nat.mul_le_mul_right _ ht)⟩
end Go.Proofs.Yteijmppjdljedaa
