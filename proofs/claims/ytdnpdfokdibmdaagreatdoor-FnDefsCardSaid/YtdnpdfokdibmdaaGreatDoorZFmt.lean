/-
  Numbers, lists and matrices as text: the plain functions.
-/
import Derived.Test.YtdnpdfokdibmdaaGreatDoorZIsMat
import Derived.Lib.ItoaLen
import Derived.Lib.Join
namespace Go.Proofs.YtdnpdfokdibmdaaGreatDoor
open Go.RowKit

/-- The digits that are still to come ahead of those that are there. -/
def restD (x : Int) : List UInt8 := if x = 0 then [] else Lib.decDigits x.natAbs
theorem decDigits_step {u : Nat} (h : ¬ u < 10) : Lib.decDigits u = Lib.decDigits (u / 10) ++ [UInt8.ofNat (48 + u % 10)] := by
  rw [Lib.decDigits, dif_neg h]
theorem restD_step {x : Int} (h : x ≠ 0) : restD x = restD (x.tdiv 10) ++ [UInt8.ofNat (48 + x.natAbs % 10)] := by
  have e1 : (x.tdiv 10).natAbs = x.natAbs / 10 := Int.natAbs_tdiv x 10
  unfold restD
  rw [if_neg h]
  by_cases hs : x.natAbs < 10
  · have : x.tdiv 10 = 0 := by
      have : (x.tdiv 10).natAbs = 0 := by rw [e1]; omega
      omega
    rw [if_pos this, Lib.decDigits, dif_pos hs, Nat.mod_eq_of_lt hs]; rfl
  · have : x.tdiv 10 ≠ 0 := by
      intro e
      have : (x.tdiv 10).natAbs = 0 := by rw [e]; rfl
      omega
    rw [if_neg this, decDigits_step hs, e1]
theorem itoa_rest (n : Int) : Lib.itoa n = if n = 0 then [48] else if n < 0 then 45 :: restD n else restD n := by
  unfold Lib.itoa restD
  by_cases h : n = 0
  · subst h
    rw [if_pos rfl, if_neg (by omega)]
    rw [Lib.decDigits, dif_pos (by decide)]; rfl
  · rw [if_neg h, if_neg h]
    by_cases hn : n < 0
    · rw [if_pos hn, if_pos hn]
    · rw [if_neg hn, if_neg hn, show n.toNat = n.natAbs by omega]
theorem itoa_ne (n : Int) : Lib.itoa n ≠ [] := by
  have h : ∀ u, Lib.decDigits u ≠ [] := fun u e => by
    have h1 := Lib.decDigits_length u
    have h2 := Lib.nDigits_pos u
    rw [e] at h1; simp at h1; omega
  unfold Lib.itoa
  split
  · simp
  · exact h _
theorem nDigits_le9 (u : Nat) (h : u ≤ 400000000) : Lib.nDigits u ≤ 9 := by
  by_cases h0 : 9 < Lib.nDigits u
  · exfalso
    rcases Nat.eq_zero_or_pos u with rfl | hu
    · rw [Lib.nDigits_small (by omega)] at h0; omega
    · have key : ∀ k u : Nat, k < Lib.nDigits u → 0 < u → 10 ^ k ≤ u := by
        intro k
        induction k with
        | zero => intro u _ h; rw [Nat.pow_zero]; omega
        | succ k ih =>
          intro u hk hu
          by_cases hs : u < 10
          · rw [Lib.nDigits_small hs] at hk; omega
          · rw [Lib.nDigits_big hs] at hk
            have := ih (u / 10) (by omega) (by omega)
            rw [Nat.pow_succ]; omega
      have := key 9 u h0 hu
      omega
  · omega
theorem itoa_len10 {n : Int} (h0 : -400000000 ≤ n) (h1 : n ≤ 400000000) : (Lib.itoa n).length ≤ 10 := by
  unfold Lib.itoa
  split
  · have := nDigits_le9 n.natAbs (by omega)
    simp [Lib.decDigits_length]; omega
  · have := nDigits_le9 n.toNat (by omega)
    rw [Lib.decDigits_length]; omega

/-- A list of numbers with spaces between. -/
def fmtL (l : List Int) : List UInt8 := Lib.join (l.map Lib.itoa) [32]
/-- How far the text of a list has come. -/
theorem join_snoc (xs : List (List UInt8)) (y sep : List UInt8) : Lib.join (xs ++ [y]) sep = Lib.join xs sep ++ ((if xs.length = 0 then [] else sep) ++ y) := by
  cases xs with
  | nil => simp [Lib.join_one, Lib.join_nil]
  | cons x r =>
    rw [List.cons_append, Lib.join_cons, Lib.join_cons]
    simp [Lib.joinTail]
theorem fmtL_snoc (l : List Int) (x : Int) : fmtL (l ++ [x]) = fmtL l ++ ((if l.length = 0 then [] else [32]) ++ Lib.itoa x) := by
  unfold fmtL
  rw [List.map_append, List.map_cons, List.map_nil, join_snoc, List.length_map]
theorem lens_le {b : Nat} : ∀ {xs : List (List UInt8)}, (∀ x ∈ xs, x.length ≤ b) → Lib.lens xs ≤ xs.length * b
  | [], _ => by simp [Lib.lens]
  | x :: r, hb => by
    have h1 := lens_le (xs := r) fun y hy => hb y (by simp [hy])
    have h2 := hb x (by simp)
    unfold Lib.lens at h1 ⊢
    simp only [List.map_cons, List.sum_cons, List.length_cons, Nat.add_mul, Nat.one_mul]
    omega
theorem join_len_le {xs : List (List UInt8)} {sep : List UInt8} {b : Nat} (hb : ∀ x ∈ xs, x.length ≤ b) : (Lib.join xs sep).length ≤ xs.length * b + xs.length * sep.length := by
  cases xs with
  | nil => simp [Lib.join_nil]
  | cons x r =>
    rw [Lib.join_length]
    have h1 := lens_le hb
    have h2 : sep.length * r.length ≤ (x :: r).length * sep.length := by rw [Nat.mul_comm]; exact Nat.mul_le_mul_right _ (by simp)
    omega

/-- The rows of a matrix. -/
def rowsL (C : Nat) (cells : List Int) : Nat → List (List Int)
  | 0 => []
  | r + 1 => rowsL C cells r ++ [(cells.drop (r * C)).take C]
theorem rowsL_len (C : Nat) (cells : List Int) : ∀ r, (rowsL C cells r).length = r
  | 0 => rfl
  | r + 1 => by simp [rowsL, rowsL_len C cells r]
theorem rowsL_mem {C : Nat} {cells : List Int} : ∀ {r : Nat} {l : List Int}, l ∈ rowsL C cells r → l.length ≤ C ∧ ∀ x ∈ l, x ∈ cells
  | 0, l, h => by simp [rowsL] at h
  | r + 1, l, h => by
    rcases List.mem_append.1 h with h | h
    · exact rowsL_mem h
    · rw [List.mem_singleton.1 h]
      exact ⟨List.length_take_le _ _, fun x hx => List.mem_of_mem_drop (List.mem_of_mem_take hx)⟩
/-- The text of the cells: the rows with semicolons between. -/
def bodyM (C : Nat) (cells : List Int) (r : Nat) : List UInt8 := Lib.join ((rowsL C cells r).map fmtL) [59]
/-- The same cell by cell. -/
def cellsT (C : Nat) : Nat → List Int → List UInt8
  | _, [] => []
  | k, x :: l => (if 0 < k ∧ k % C = 0 then [59] else if 0 < k then [32] else []) ++ (Lib.itoa x ++ cellsT C (k + 1) l)
theorem cellsT_append (C : Nat) : ∀ (l : List Int) (k : Nat) (r : List Int), cellsT C k (l ++ r) = cellsT C k l ++ cellsT C (k + l.length) r
  | [], k, r => by simp [cellsT]
  | x :: l, k, r => by
    simp only [List.cons_append, cellsT, cellsT_append C l (k + 1) r, List.length_cons, List.append_assoc]
    rw [show k + 1 + l.length = k + (l.length + 1) by omega]
/-- A row's cells behind its first. -/
theorem cellsT_row (C q : Nat) : ∀ (l : List Int) (j : Nat), 0 < j → j + l.length ≤ C → cellsT C (q * C + j) l = (l.map fun x => 32 :: Lib.itoa x).flatten
  | [], _, _, _ => by simp [cellsT]
  | x :: l, j, h0, h => by
    have hj : j < C := by simp at h; omega
    have e : (q * C + j) % C = j := by rw [Nat.add_comm, Nat.add_mul_mod_self_right, Nat.mod_eq_of_lt hj]
    simp only [cellsT, List.map_cons, List.flatten_cons]
    rw [if_neg (by omega), if_pos (by omega), show q * C + j + 1 = q * C + (j + 1) by omega, cellsT_row C q l (j + 1) (by omega) (by simp at h; omega)]
    simp
theorem fmtL_cons (x : Int) (l : List Int) : fmtL (x :: l) = Lib.itoa x ++ (l.map fun x => 32 :: Lib.itoa x).flatten := by
  unfold fmtL
  rw [List.map_cons, Lib.join_cons]
  simp [Lib.joinTail, Function.comp_def]
theorem cellsT_rows {C : Nat} (hC : 0 < C) {cells : List Int} : ∀ r : Nat, r * C ≤ cells.length → cellsT C 0 (cells.take (r * C)) = bodyM C cells r
  | 0, _ => by simp [cellsT, bodyM, rowsL, Lib.join_nil]
  | r + 1, h => by
    have h1 : r * C ≤ cells.length := by rw [Nat.add_mul] at h; omega
    have hl : (cells.take (r * C)).length = r * C := by simp; omega
    have e : cells.take ((r + 1) * C) = cells.take (r * C) ++ (cells.drop (r * C)).take C := by rw [Nat.add_mul, Nat.one_mul, List.take_add]
    rw [e, cellsT_append, cellsT_rows hC r h1, hl, Nat.zero_add]
    unfold bodyM
    rw [rowsL, List.map_append, List.map_cons, List.map_nil, join_snoc, List.length_map, rowsL_len]
    congr 1
    have hlen : ((cells.drop (r * C)).take C).length = C := by rw [Nat.add_mul] at h; simp; omega
    match hx : (cells.drop (r * C)).take C, hlen with
    | [], hlen => simp at hlen; omega
    | x :: l, hlen =>
      rw [fmtL_cons, cellsT]
      have := cellsT_row C r l 1 (by omega) (by simp at hlen; omega)
      rw [this]
      by_cases h0 : r = 0
      · subst h0; simp
      · have : 0 < r * C := Nat.mul_pos (by omega) hC
        rw [if_pos ⟨this, by simp⟩, if_neg h0]

/-- A matrix as text. -/
def fmtM (m : Mat) : List UInt8 := if isMatB m = true then Lib.itoa m.rows ++ (120 :: (Lib.itoa m.cols ++ (91 :: (cellsT m.cols.toNat 0 m.cells ++ [93])))) else []
theorem fmtM_no {m : Mat} (h : isMatB m = false) : fmtM m = [] := by unfold fmtM; rw [h]; rfl
theorem fmtM_yes {m : Mat} (h : isMatB m = true) : fmtM m = Lib.itoa m.rows ++ (120 :: (Lib.itoa m.cols ++ (91 :: (cellsT m.cols.toNat 0 m.cells ++ [93])))) := by unfold fmtM; rw [if_pos h]
theorem cellsT_len {C : Nat} : ∀ {l : List Int} {k : Nat}, (∀ x ∈ l, -400000000 ≤ x ∧ x ≤ 400000000) → (cellsT C k l).length ≤ l.length * 11
  | [], _, _ => by simp [cellsT]
  | x :: l, k, h => by
    have h1 := cellsT_len (C := C) (l := l) (k := k + 1) fun y hy => h y (by simp [hy])
    have h2 := itoa_len10 (h x (by simp)).1 (h x (by simp)).2
    have h3 : (if 0 < k ∧ k % C = 0 then ([59] : List UInt8) else if 0 < k then [32] else []).length ≤ 1 := by split; simp; split <;> simp
    simp only [cellsT, List.length_append, List.length_cons]
    omega
theorem fmtM_len (m : Mat) : (fmtM m).length ≤ 6400 := by
  unfold fmtM
  split
  · rename_i h
    obtain ⟨R, C, hR, hC, h1, h2, h3, h4⟩ := isMatB_shape h
    have a := itoa_len10 (n := m.rows) (by omega) (by omega)
    have b := itoa_len10 (n := m.cols) (by omega) (by omega)
    have c := cellsT_len (C := m.cols.toNat) (k := 0) h4
    have d : R * C ≤ 24 * 24 := Nat.mul_le_mul h1 h2
    simp only [List.length_append, List.length_cons, List.length_nil]
    omega
  · simp
end Go.Proofs.YtdnpdfokdibmdaaGreatDoor
