/-
  Cells that are slices of integers, read; rows of structs.
-/
import Derived.Test.YteijmppjdljedaaZInts
import Derived.Test.YteijmppjdljedaaZBase
namespace Go.Proofs.Yteijmppjdljedaa
open Go.RowKit

/-- The cells vs are slices that read as the lists xss. -/
def RdCells (w : World) (S : Nat → Prop) (vs : List Value) (xss : List (List Int)) : Prop :=
  ∀ (i : Nat) (xs : List Int), xss[i]? = some xs → ∃ b c, vs[i]? = some (Value.slice b xs.length c) ∧ RdI w S b xs.length c xs
theorem RdCells.keep {S T : Nat → Prop} {w w' : World} {vs : List Value} {xss : List (List Int)} (h : RdCells w S vs xss) (hk : Keep T w w') (hST : ∀ b, b < w.heap.size → S b → T b) : RdCells w' S vs xss := fun i xs hi => by
  obtain ⟨b, c, h3, h4⟩ := h i xs hi
  exact ⟨b, c, h3, h4.keep hk hST⟩
theorem RdCells.grow {S : Nat → Prop} {w w' : World} {vs : List Value} {xss : List (List Int)} (h : RdCells w S vs xss) (hk : Grow w w') : RdCells w' S vs xss := h.keep hk fun _ _ _ => trivial
theorem RdCells.weak {S T : Nat → Prop} {w : World} {vs : List Value} {xss : List (List Int)} (h : RdCells w S vs xss) (hST : ∀ b, b < w.heap.size → S b → T b) : RdCells w T vs xss := fun i xs hi => by
  obtain ⟨b, c, h3, h4⟩ := h i xs hi
  exact ⟨b, c, h3, h4.weak hST⟩
theorem RdCells.nilw {S : Nat → Prop} {w : World} : RdCells w S [] [] := fun i xs h => by simp at h
theorem RdCells.append {S : Nat → Prop} {w : World} {vs us : List Value} {xss yss : List (List Int)} (h : RdCells w S vs xss) (h' : RdCells w S us yss) (hl : vs.length = xss.length) : RdCells w S (vs ++ us) (xss ++ yss) := fun i xs hi => by
  by_cases hlt : i < xss.length
  · rw [List.getElem?_append_left hlt] at hi
    obtain ⟨b, c, h1, h2⟩ := h i xs hi
    exact ⟨b, c, by rw [List.getElem?_append_left (by omega)]; exact h1, h2⟩
  · rw [List.getElem?_append_right (by omega)] at hi
    obtain ⟨b, c, h1, h2⟩ := h' _ xs hi
    exact ⟨b, c, by rw [List.getElem?_append_right (by omega), hl]; exact h1, h2⟩
theorem RdCells.two {S : Nat → Prop} {w : World} {a1 a2 : Option Addr} {n1 n2 c1 c2 : Nat} {x y : List Int} (h1 : RdI w S a1 n1 c1 x) (h2 : RdI w S a2 n2 c2 y) : RdCells w S [.slice a1 n1 c1, .slice a2 n2 c2] [x, y] := fun i xs hi => by
  have e1 := h1.len; have e2 := h2.len
  subst e1; subst e2
  match i, hi with
  | 0, hi => simp at hi; subst hi; exact ⟨a1, c1, rfl, h1⟩
  | 1, hi => simp at hi; subst hi; exact ⟨a2, c2, rfl, h2⟩

theorem Row.pre {S : Nat → Prop} {w : World} {sz : Nat} {a : Option Addr} {n cap : Nat} {cs : List Value} (h : Row w S sz a n cap cs) {k : Nat} (hk : k ≤ n) : Row w S sz a k cap (cs.take (k * sz)) := by
  have h1 := h.len; have h2 := h.le
  have h3 : k * sz ≤ n * sz := Nat.mul_le_mul_right _ hk
  refine ⟨by rw [List.length_take]; omega, by omega, h.max, h.nil, fun hne => ?_⟩
  have hcs : cs ≠ [] := by intro e; subst e; simp at hne
  obtain ⟨b, off, rfl, hS, hc⟩ := h.addr hcs
  refine ⟨b, off, rfl, hS, fun j c hj => hc j c ?_⟩
  rw [List.getElem?_take] at hj
  split at hj
  · exact hj
  · cases hj
theorem Inner.rdCells {w : World} {F S : Nat → Prop} {g : Option Nat} {vs : List Value} {xss : List (List Int)} (h : Inner w F g vs xss) (hS : ∀ b, F b → g ≠ some b → S b) : RdCells w S vs xss := fun i xs hi => by
  obtain ⟨b, c, h1, h2, h3, h4⟩ := h.each i xs hi
  exact ⟨b, c, h1, h2.rdI (fun q hq => hS q (h4 q hq).1 (h4 q hq).2) h3⟩
/-- The place of the first one; -1 if there is none. -/
def firstIdx {α : Type} (f : α → Bool) : List α → Int
  | [] => -1
  | x :: r => if f x = true then 0 else (if firstIdx f r < 0 then -1 else firstIdx f r + 1)
theorem firstIdx_lo {α : Type} (f : α → Bool) (l : List α) : -1 ≤ firstIdx f l ∧ firstIdx f l < l.length := by
  induction l with
  | nil => simp [firstIdx]
  | cons x r ih => simp only [firstIdx, List.length_cons]; split <;> (try split) <;> omega
theorem firstIdx_at {α : Type} {f : α → Bool} : ∀ {l : List α} {k : Nat} {x : α}, (∀ y ∈ l.take k, f y = false) → l[k]? = some x → f x = true → firstIdx f l = k
  | [], k, x, _, h, _ => by simp at h
  | y :: r, 0, x, _, h, hf => by simp at h; subst h; simp [firstIdx, hf]
  | y :: r, k + 1, x, h, hk, hf => by
    have h1 := h y (by simp)
    simp at hk
    have ih := firstIdx_at (f := f) (l := r) (k := k) (fun z hz => h z (by simp [hz])) hk hf
    simp only [firstIdx, h1, ih]
    simp only [Bool.false_eq_true, if_false]
    rw [if_neg (by omega)]; simp
theorem firstIdx_no {α : Type} {f : α → Bool} : ∀ {l : List α}, (∀ y ∈ l, f y = false) → firstIdx f l = -1
  | [], _ => rfl
  | x :: r, h => by
    simp only [firstIdx, h x (by simp), firstIdx_no (l := r) (fun y hy => h y (by simp [hy]))]; simp
theorem firstIdx_mem {α : Type} (f : α → Bool) : ∀ l : List α, 0 ≤ firstIdx f l ↔ l.any f = true
  | [] => by simp [firstIdx]
  | x :: r => by
    have ih := firstIdx_mem f r
    have e : firstIdx f (x :: r) = if f x = true then 0 else (if firstIdx f r < 0 then -1 else firstIdx f r + 1) := rfl
    rw [e, List.any_cons, Bool.or_eq_true]
    by_cases hx : f x = true
    · rw [if_pos hx]; simp [hx]
    · rw [if_neg hx]
      constructor
      · intro h
        exact .inr (ih.1 (by split at h <;> omega))
      · intro h
        have := ih.2 (h.resolve_left hx)
        rw [if_neg (by omega)]; omega
theorem firstIdx_any {α : Type} (f : α → Bool) (l : List α) : decide (0 ≤ firstIdx f l) = l.any f := by
  rw [Bool.eq_iff_iff, decide_eq_true_eq]; exact firstIdx_mem f l
end Go.Proofs.Yteijmppjdljedaa

namespace Go.Proofs.Yteijmppjdljedaa
open Go.RowKit

def isNumB (n : Int) : Bool := inB n (-400000000) 400000000
def numsB (xs : List Int) : Bool := xs.all isNumB
theorem isNumB_rng {n : Int} (h : isNumB n = true) : -400000000 ≤ n ∧ n ≤ 400000000 := by unfold isNumB inB at h; simpa using h
theorem isNumB_iff {n : Int} : isNumB n = true ↔ -400000000 ≤ n ∧ n ≤ 400000000 := by unfold isNumB inB; simp
theorem numsB_take_succ {xs : List Int} {k : Nat} {x : Int} (h : xs[k]? = some x) : numsB (xs.take (k + 1)) = (numsB (xs.take k) && isNumB x) := by
  rw [take_succ h]; unfold numsB; simp
theorem numsB_no {xs : List Int} {k : Nat} {x : Int} (h : xs[k]? = some x) (hx : isNumB x = false) : numsB xs = false := by
  unfold numsB
  rw [List.all_eq_false]
  exact ⟨x, List.mem_of_getElem? h, by simp [hx]⟩
/-- The valid shapes. -/
def shapeB (m : Mat) : Bool := decide (0 ≤ m.rows ∧ m.rows ≤ 24 ∧ 0 ≤ m.cols ∧ m.cols ≤ 24 ∧ (m.cells.length : Int) = m.rows * m.cols)
def isMatB (m : Mat) : Bool := shapeB m && numsB m.cells

theorem isNumber_c (n : Int) (w : World) : Calls Try.prog 63 #[.int .i64 n] w fun e w' => e = .returned (.bool (isNumB n)) ∧ w = w' := by
  by_cases h1 : -400000000 ≤ n
  · by_cases h2 : n ≤ 400000000
    · have H := Lib.hid (isNumB_iff.2 ⟨h1, h2⟩)
      go_enter Try.func63, Try.ntmps63
      go_wp2
      go_ret
      exact ⟨by rw [H.out]; rfl, rfl⟩
    · have H := Lib.hid (show isNumB n = false by cases h : isNumB n with | false => rfl | true => exact absurd (isNumB_rng h).2 h2)
      go_enter Try.func63, Try.ntmps63
      go_wp2
      go_ret
      exact ⟨by rw [H.out]; rfl, rfl⟩
  · have H := Lib.hid (show isNumB n = false by cases h : isNumB n with | false => rfl | true => exact absurd (isNumB_rng h).1 h1)
    go_enter Try.func63, Try.ntmps63
    go_wp2
    go_ret
    exact ⟨by rw [H.out]; rfl, rfl⟩
set_option maxHeartbeats 1000000 in
theorem areNumbers_c {S : Nat → Prop} (a : Option Addr) (n cap : Nat) (xs : List Int) (w : World) (h : RdI w S a n cap xs) (hn : n ≤ 2097152) :
    Calls Try.prog 65 #[.slice a n cap] w fun e w' => e = .returned (.bool (numsB xs)) ∧ w = w' := by
  have hl := h.len
  go_enter Try.func65, Try.ntmps65
  go_wp2
  go_loopw [7] (fun i wr => w = wr ∧ ∃ k : Nat, k ≤ n ∧ i = .int .i64 k ∧ numsB (xs.take k) = true) (fun i _ => n - (intOf i).toNat)
  case atStart => exact ⟨by trivial, 0, Nat.zero_le _, rfl, rfl⟩
  case round =>
    obtain ⟨rfl, k, hk, rfl, hall⟩ := hrel
    have Hall := Lib.hid hall; clear hall
    by_cases hlt : k < n
    · obtain ⟨b, off, x, rfl, hx, hr, _, hb, hc⟩ := h.at hlt
      have Hx := Lib.hid hx; clear hx
      unfold I64 at hr
      cases hN : isNumB x with
      | true =>
        have HN := Lib.hid hN; clear hN
        go_wp2_with fail
        refine (isNumber_c _ _).mono ?_
        rintro e w' ⟨rfl, rfl⟩
        rw [HN.out]
        go_wp2
        go_roundw
        case rel => exact ⟨by trivial, k + 1, by omega, by go_num, by rw [numsB_take_succ Hx.out, Hall.out, HN.out]; rfl⟩
        case measure => simp [intOf]; omega
      | false =>
        have HN := Lib.hid hN; clear hN
        go_wp2_with fail
        refine (isNumber_c _ _).mono ?_
        rintro e w' ⟨rfl, rfl⟩
        rw [HN.out]
        go_wp2
        go_ret
        exact ⟨by rw [numsB_no Hx.out HN.out]; rfl, rfl⟩
    · have : k = n := by omega
      subst this
      rw [take_all hl] at Hall
      go_wp2
      go_ret
      exact ⟨by rw [Hall.out]; rfl, rfl⟩

set_option maxHeartbeats 2000000 in
set_option maxRecDepth 100000 in
theorem isMatrix_c {S : Nat → Prop} {v : Value} {m : Mat} {w : World} (h : VM w S v m) (hb : bdM m ≤ 2097152) :
    Calls Try.prog 56 #[v] w fun e w' => e = .returned (.bool (isMatB m)) ∧ Grow w w' := by
  obtain ⟨a, n, c, rfl, h, hr, hc⟩ := h
  have hl := h.len
  unfold bdM at hb
  obtain ⟨r, k, cells⟩ := m
  simp only at *
  unfold I64 at hr hc
  have hG : Grow w (w.alloc (.cells #[.int .i64 r, .int .i64 k, .slice a n c] 65)) := (Grow.refl w).alloc _ _
  by_cases h1 : 0 ≤ r
  · by_cases h2 : r ≤ 24
    · by_cases h3 : 0 ≤ k
      · by_cases h4 : k ≤ 24
        · obtain ⟨R, rfl⟩ := Int.eq_ofNat_of_zero_le h1
          obtain ⟨K, rfl⟩ := Int.eq_ofNat_of_zero_le h3
          have hm : R * K ≤ 24 * 24 := Nat.mul_le_mul (by omega) (by omega)
          have hmul : ((R : Int) * (K : Int)) = ((R * K : Nat) : Int) := by simp
          have hw1 : IntKind.i64.wrap ((R : Int) * K) = ((R * K : Nat) : Int) := by rw [hmul]; exact IntWalk.i64_in _ (by omega)
          obtain ⟨p, hp⟩ : ∃ p, p = R * K := ⟨_, rfl⟩
          rw [← hp] at hw1
          by_cases h5 : n = p
          · have q1 : ((n : Int) == (p : Int)) = true := by simp [h5]
            have q2 : ((n : Int) != (p : Int)) = false := by simp [h5]
            have Hsh := Lib.hid (show shapeB ⟨(R : Int), (K : Int), cells⟩ = true by unfold shapeB; simp only [decide_eq_true_eq]; refine ⟨h1, h2, h3, h4, ?_⟩; rw [hmul]; omega)
            clear hmul hp h5 hm
            go_enter Try.func56, Try.ntmps56
            go_wp2_with fail
            refine (areNumbers_c _ _ _ cells _ (h.grow hG) (by omega)).mono ?_
            rintro e w' ⟨rfl, rfl⟩
            go_wp2
            go_ret
            exact ⟨by unfold isMatB; rw [Hsh.out]; simp, hG⟩
          · have q1 : ((n : Int) == (p : Int)) = false := by simp; omega
            have q2 : ((n : Int) != (p : Int)) = true := by simp; omega
            have H := Lib.hid (show isMatB ⟨(R : Int), (K : Int), cells⟩ = false by unfold isMatB shapeB; rw [decide_eq_false (fun hh => h5 (by have := hh.2.2.2.2; rw [hmul] at this; simp only at this; omega))]; rfl)
            clear hmul hp h5 hm
            go_enter Try.func56, Try.ntmps56
            go_wp2
            go_ret
            exact ⟨by rw [H.out]; rfl, hG⟩
        · have H := Lib.hid (show isMatB ⟨r, k, cells⟩ = false by unfold isMatB shapeB; rw [decide_eq_false (fun hh => h4 hh.2.2.2.1)]; rfl)
          go_enter Try.func56, Try.ntmps56
          go_wp2
          go_ret
          exact ⟨by rw [H.out]; rfl, hG⟩
      · have H := Lib.hid (show isMatB ⟨r, k, cells⟩ = false by unfold isMatB shapeB; rw [decide_eq_false (fun hh => h3 hh.2.2.1)]; rfl)
        go_enter Try.func56, Try.ntmps56
        go_wp2
        go_ret
        exact ⟨by rw [H.out]; rfl, hG⟩
    · have H := Lib.hid (show isMatB ⟨r, k, cells⟩ = false by unfold isMatB shapeB; rw [decide_eq_false (fun hh => h2 hh.2.1)]; rfl)
      go_enter Try.func56, Try.ntmps56
      go_wp2
      go_ret
      exact ⟨by rw [H.out]; rfl, hG⟩
  · have H := Lib.hid (show isMatB ⟨r, k, cells⟩ = false by unfold isMatB shapeB; rw [decide_eq_false (fun hh => h1 hh.1)]; rfl)
    go_enter Try.func56, Try.ntmps56
    go_wp2
    go_ret
    exact ⟨by rw [H.out]; rfl, hG⟩

set_option maxHeartbeats 1000000 in
set_option maxRecDepth 100000 in
theorem at_c {S : Nat → Prop} (a : Option Addr) (n cp C i j idx : Nat) (R x : Int) (cells : List Int) (w : World) (h : RdI w S a n cp cells) (hidx : idx = i * C + j) (hx : cells[idx]? = some x) (hn : n ≤ 1048576) (hi : i ≤ 1048576) (hC : C ≤ 1048576) (_hj : j ≤ 1048576) :
    Calls Try.prog 60 #[.agg #[.int .i64 R, .int .i64 C, .slice a n cp], .int .i64 i, .int .i64 j] w fun e w' => e = .returned (.int .i64 x) ∧ Grow w w' := by
  have hl := h.len
  have hlt : idx < n := by rw [← hl]; exact (List.getElem?_eq_some_iff.1 hx).1
  have hG : Grow w (w.alloc (.cells #[.int .i64 R, .int .i64 C, .slice a n cp] 65)) := (Grow.refl w).alloc _ _
  have hiC : i * C ≤ 1048576 * 1048576 := Nat.mul_le_mul hi hC
  obtain ⟨b, off, y, rfl, hy, hr, _, hb, hc⟩ := (h.grow hG).at hlt
  obtain rfl : x = y := Option.some.inj (hx.symm.trans hy)
  clear hx hy
  have hw1 : IntKind.i64.wrap ((i : Int) * C) = (i : Int) * C := by
    have : ((i : Int) * C) = ((i * C : Nat) : Int) := by simp
    rw [this]; exact IntWalk.i64_in _ (by omega)
  have hsum : ((i : Int) * C + j) = ((idx : Nat) : Int) := by rw [hidx]; simp
  have hw2 : IntKind.i64.wrap ((i : Int) * C + j) = (idx : Int) := by rw [hsum]; exact IntWalk.i64_in _ (by omega)
  clear hsum hidx
  go_enter Try.func60, Try.ntmps60
  go_wp2
  go_ret
  exact ⟨rfl, hG⟩

theorem inB_iff {x lo hi : Int} : inB x lo hi = true ↔ lo ≤ x ∧ x ≤ hi := by unfold inB; simp
theorem inB_no {x lo hi : Int} (h : ¬ (lo ≤ x ∧ x ≤ hi)) : inB x lo hi = false := by
  cases e : inB x lo hi with
  | false => rfl
  | true => exact absurd (inB_iff.1 e) h
/-- A matrix, if it is valid. -/
def okM (m : Mat) : Mat := if isMatB m = true then m else { rows := 0, cols := 0, cells := [] }
theorem isMatB_shape {m : Mat} (h : isMatB m = true) : ∃ R C : Nat, m.rows = R ∧ m.cols = C ∧ R ≤ 24 ∧ C ≤ 24 ∧ m.cells.length = R * C ∧ ∀ x ∈ m.cells, -400000000 ≤ x ∧ x ≤ 400000000 := by
  unfold isMatB shapeB at h
  simp only [Bool.and_eq_true, decide_eq_true_eq] at h
  obtain ⟨⟨h1, h2, h3, h4, h5⟩, h6⟩ := h
  obtain ⟨R, hR⟩ := Int.eq_ofNat_of_zero_le h1
  obtain ⟨C, hC⟩ := Int.eq_ofNat_of_zero_le h3
  refine ⟨R, C, hR, hC, by omega, by omega, ?_, fun x hx => ?_⟩
  · rw [hR, hC] at h5; exact_mod_cast h5
  · unfold numsB at h6; exact isNumB_rng (List.all_eq_true.1 h6 x hx)
theorem okM_bd {m : Mat} : bdM (okM m) ≤ 576 := by
  unfold okM
  split
  · rename_i h
    obtain ⟨R, C, _, _, h1, h2, h3, _⟩ := isMatB_shape h
    have := Nat.mul_le_mul h1 h2
    unfold bdM; omega
  · simp [bdM]

end Go.Proofs.Yteijmppjdljedaa

namespace Go.Proofs.Yteijmppjdljedaa
open Go.RowKit

/-- The sum of the first so many products. -/
def dotN (a b : List Int) (n c i j : Nat) : Nat → Int
  | 0 => 0
  | k + 1 => dotN a b n c i j k + a.getD (i * n + k) 0 * b.getD (k * c + j) 0
def mRow (a b : List Int) (n c i : Nat) : Nat → List Int → List Int
  | 0, cells => cells
  | j + 1, cells => (mRow a b n c i j cells).set (i * c + j) (dotN a b n c i j n)
def mRows (a b : List Int) (n c r : Nat) : Nat → List Int
  | 0 => List.replicate (r * c) 0
  | i + 1 => mRow a b n c i c (mRows a b n c r i)
def mulM (a b : Mat) : Mat := { rows := a.rows, cols := b.cols, cells := mRows a.cells b.cells a.cols.toNat b.cols.toNat a.rows.toNat a.rows.toNat }
def mulFit (a b : Mat) : Bool := isMatB a && isMatB b && a.cols == b.rows
def mulOk (a b : Mat) : Bool := mulFit a b && isMatB (mulM a b)
def mulB (a b : Mat) : Mat := if mulFit a b = true then okM (mulM a b) else { rows := 0, cols := 0, cells := [] }
def NumL (l : List Int) : Prop := ∀ x ∈ l, -400000000 ≤ x ∧ x ≤ 400000000
theorem NumL.getD {l : List Int} (h : NumL l) (i : Nat) : -400000000 ≤ l.getD i 0 ∧ l.getD i 0 ≤ 400000000 := by
  by_cases hi : i < l.length
  · have : l.getD i 0 = l[i] := by simp [List.getD, List.getElem?_eq_getElem hi]
    rw [this]; exact h _ (List.getElem_mem hi)
  · have : l.getD i 0 = 0 := by simp [List.getD, List.getElem?_eq_none (Nat.le_of_not_lt hi)]
    rw [this]; omega
theorem mul_rng {x y : Int} (hx : -400000000 ≤ x ∧ x ≤ 400000000) (hy : -400000000 ≤ y ∧ y ≤ 400000000) : -160000000000000000 ≤ x * y ∧ x * y ≤ 160000000000000000 := by
  have h : (x * y).natAbs ≤ 400000000 * 400000000 := by rw [Int.natAbs_mul]; exact Nat.mul_le_mul (by omega) (by omega)
  omega
theorem dotN_rng {a b : List Int} (ha : NumL a) (hb : NumL b) (n c i j : Nat) : ∀ k : Nat, -160000000000000000 * (k : Int) ≤ dotN a b n c i j k ∧ dotN a b n c i j k ≤ 160000000000000000 * (k : Int)
  | 0 => by simp [dotN]
  | k + 1 => by
    have h1 := dotN_rng ha hb n c i j k
    have h2 := mul_rng (ha.getD (i * n + k)) (hb.getD (k * c + j))
    unfold dotN
    push_cast
    omega
theorem mRow_len (a b : List Int) (n c i : Nat) : ∀ (j : Nat) (cells : List Int), (mRow a b n c i j cells).length = cells.length
  | 0, _ => rfl
  | j + 1, cells => by unfold mRow; simp [mRow_len a b n c i j cells]
theorem mRows_len (a b : List Int) (n c r : Nat) : ∀ i, (mRows a b n c r i).length = r * c
  | 0 => by simp [mRows]
  | i + 1 => by unfold mRows; rw [mRow_len, mRows_len a b n c r i]
theorem mRow_rng {a b : List Int} (ha : NumL a) (hb : NumL b) {n : Nat} (hn : n ≤ 24) (c i : Nat) : ∀ (j : Nat) (cells : List Int), (∀ y ∈ cells, I64 y) → ∀ y ∈ mRow a b n c i j cells, I64 y
  | 0, _, h => h
  | j + 1, cells, h => by
    have ih := mRow_rng ha hb hn c i j cells h
    intro y hy
    unfold mRow at hy
    rcases List.mem_or_eq_of_mem_set hy with h1 | h1
    · exact ih y h1
    · have := dotN_rng ha hb n c i j n
      subst h1; unfold I64; omega
theorem mRows_rng {a b : List Int} (ha : NumL a) (hb : NumL b) {n : Nat} (hn : n ≤ 24) (c r : Nat) : ∀ i, ∀ y ∈ mRows a b n c r i, I64 y
  | 0 => zeros_rng
  | i + 1 => by unfold mRows; exact mRow_rng ha hb hn c i c _ (mRows_rng ha hb hn c r i)

theorem mul_wrap {i c : Nat} (hi : i ≤ 1048576) (hc : c ≤ 1048576) : IntKind.i64.wrap ((i : Int) * c) = (i : Int) * c := by
  have h : i * c ≤ 1048576 * 1048576 := Nat.mul_le_mul hi hc
  have : ((i : Int) * c) = ((i * c : Nat) : Int) := by simp
  rw [this]; exact IntWalk.i64_in _ (by omega)
theorem idx_wrap {i c j x : Nat} (hi : i ≤ 1048576) (hc : c ≤ 1048576) (hj : j ≤ 1048576) (hx : x = i * c + j) : IntKind.i64.wrap ((i : Int) * c + j) = (x : Int) := by
  have h : i * c ≤ 1048576 * 1048576 := Nat.mul_le_mul hi hc
  have : ((i : Int) * c + j) = ((x : Nat) : Int) := by rw [hx]; simp
  rw [this]; exact IntWalk.i64_in _ (by omega)
theorem getD_at {l : List Int} {k : Nat} {x : Int} (h : l[k]? = some x) : l.getD k 0 = x := by simp [List.getD, h]

end Go.Proofs.Yteijmppjdljedaa

namespace Go.Proofs.Yteijmppjdljedaa
open Go.RowKit

theorem mulFit_num {A B : Mat} (h : mulFit A B = true) : ∃ R N C : Nat, A.rows = R ∧ A.cols = N ∧ B.rows = N ∧ B.cols = C ∧ R ≤ 24 ∧ N ≤ 24 ∧ C ≤ 24 ∧ A.cells.length = R * N ∧ B.cells.length = N * C ∧ NumL A.cells ∧ NumL B.cells := by
  unfold mulFit at h
  simp only [Bool.and_eq_true, beq_iff_eq] at h
  obtain ⟨⟨h1, h2⟩, h3⟩ := h
  obtain ⟨R, N, r1, r2, r3, r4, r5, r6⟩ := isMatB_shape h1
  obtain ⟨N', C, s1, s2, s3, s4, s5, s6⟩ := isMatB_shape h2
  have : N' = N := by omega
  subst this
  exact ⟨R, N', C, r1, r2, s1, s2, r3, r4, s4, r5, s5, r6, s6⟩
/-- The zero value. -/
def zeroM : Mat := { rows := 0, cols := 0, cells := [] }
theorem OM.zero {w : World} {F : Nat → Prop} : OM w F (.agg #[.int .i64 0, .int .i64 0, .slice none 0 0]) { rows := 0, cols := 0, cells := [] } :=
  ⟨none, 0, 0, rfl, Own.nilw, (fun x hx => by cases hx), (fun g hg => by simp at hg), by simp [I64], by simp [I64]⟩

theorem mulM_cells {A B : Mat} {R N C : Nat} (hr : A.rows = R) (hn : A.cols = N) (hc : B.cols = C) : (mulM A B).cells = mRows A.cells B.cells N C R R := by
  unfold mulM; simp only [hr, hn, hc, Int.toNat_natCast]
theorem mulM_rng {A B : Mat} (hF : mulFit A B = true) : ∀ x ∈ (mulM A B).cells, I64 x := by
  obtain ⟨R, N, C, r1, r2, r3, r4, h1, h2, h3, _, _, n1, n2⟩ := mulFit_num hF
  rw [mulM_cells r1 r2 r4]; exact mRows_rng n1 n2 h2 C R R
theorem mulM_bd {A B : Mat} (hF : mulFit A B = true) : bdM (mulM A B) ≤ 576 := by
  obtain ⟨R, N, C, r1, r2, r3, r4, h1, h2, h3, _, _, n1, n2⟩ := mulFit_num hF
  unfold bdM; rw [mulM_cells r1 r2 r4, mRows_len]
  exact Nat.mul_le_mul h1 h3
end Go.Proofs.Yteijmppjdljedaa

namespace Go.Proofs.Yteijmppjdljedaa
open Go.RowKit

def zeroL (l : List Int) : Bool := l.all fun x => x == 0
theorem zeroL_no {l : List Int} {k : Nat} {x : Int} (h : l[k]? = some x) (hx : (x == 0) = false) : zeroL l = false := by
  unfold zeroL; rw [List.all_eq_false]; exact ⟨x, List.mem_of_getElem? h, by simp [hx]⟩
theorem zeroL_yes {l : List Int} (h : ∀ x ∈ l, (x == 0) = true) : zeroL l = true := by
  unfold zeroL; rw [List.all_eq_true]; exact h
/-- A row, as a matrix. -/
def rowM (c : List Int) : Mat := { rows := 1, cols := c.length, cells := c }

theorem Own.ne_blk {w : World} {e t : TypeId} {sz : Nat} {a : Option Addr} {n cap g : Nat} {cs : List Value} {ds : Array Value} (ho : Own w e sz a n cap cs) (hb : Blk w g ds t) (hne : e ≠ t) : blk a ≠ some g := fun h => by
  cases a with
  | none => simp at h
  | some p =>
    simp at h
    obtain ⟨_, cur, h2, _⟩ := ho.block p rfl
    rw [h] at h2
    have := h2.symm.trans hb
    simp only [Option.some.injEq, Obj.cells.injEq] at this
    exact hne this.2.1
end Go.Proofs.Yteijmppjdljedaa

namespace Go.Proofs.Yteijmppjdljedaa
open Go.RowKit

end Go.Proofs.Yteijmppjdljedaa
