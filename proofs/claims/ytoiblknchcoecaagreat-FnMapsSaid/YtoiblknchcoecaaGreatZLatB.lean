/-
  A basis spans the lattice of the rows and its rows are independent; the normal form of a vector of the lattice: plain.
-/
import Derived.Test.YtoiblknchcoecaaGreatZOrdP
import Derived.Test.YtoiblknchcoecaaGreatZSum
import Derived.Test.YtoiblknchcoecaaGreatZStack
set_option maxHeartbeats 8000000
set_option maxRecDepth 100000
namespace Go.Proofs.YtoiblknchcoecaaGreat
--BODY
theorem basOk_parts {m : Mat} {C N : Nat} {b : List Int} (hb : Bas m C N b) (h : basOk m = true) : ∃ (R : Nat) (s : HS), m.rows = (R : Int) ∧ m.cells.length = R * C ∧ NumL m.cells ∧ R ≤ 24 ∧ herm m.cells R C = some s ∧ lastN s.1 C R = N ∧ N ≤ R ∧ Ech C R s.1 C N ∧ b = s.1.take (N * C) := by
 cases hB : isMatB m with
 | false =>
  have := (basB_none (m := m) (by unfold hermR; rw [hB]; rfl)).1
  rw [this] at h; cases h
 | true =>
  obtain ⟨R, C', hmr, hmc, hR, hC, hl, hnum⟩ := isMatB_shape hB
  have hcols := hb.cols
  obtain rfl : C' = C := by omega
  obtain ⟨mr, mc, cells⟩ := m
  simp only at hmr hmc hl hnum
  subst hmr
  subst hmc
  cases hh : herm cells R C' with
  | none =>
   have := (basB_none (m := { rows := (R : Int), cols := (C' : Int), cells := cells }) (by rw [hermR_mat hB]; exact hh)).1
   rw [this] at h; cases h
  | some s =>
   obtain ⟨hs, t, ht, hE⟩ := herm_spec hl hnum hh
   have e := ech_last hE R (Nat.le_refl _) ht
   have heq := hb.eq
   rw [(basB_some hB hh).2, e] at heq
   obtain ⟨e1, e2⟩ : t = N ∧ s.1.take (t * C') = b := by
    have h1 := congrArg Mat.rows heq
    have h2 := congrArg Mat.cells heq
    exact ⟨by simp only at h1; omega, by simpa using h2⟩
   subst e1
   exact ⟨R, s, rfl, hl, hnum, hR, hh, e, ht, hE, e2.symm⟩
theorem bas_rows {m : Mat} {C N : Nat} {b : List Int} (hb : Bas m C N b) (h : basOk m = true) : ∃ R : Nat, m.rows = (R : Int) ∧ m.cells.length = R * C ∧ Rwf N (cell b C) R C (cell m.cells C) ∧ Rwf R (cell m.cells C) N C (cell b C) := by
 obtain ⟨R, s, hr, hl, hnum, -, hh, -, hNR, hE, hbs⟩ := basOk_parts hb h
 obtain ⟨hU, W, hw1, hw2⟩ := herm_fact hl hnum hh
 have hcb : ∀ i k, i < N → k < C → cell b C i k = cell s.1 C i k := fun i k h1 h2 => by rw [hbs]; exact cell_take h1 h2
 refine ⟨R, hr, hl, ⟨cell s.2 R, fun i j hi hj => by rw [hcb i j hi hj]; exact hU i j (by omega) hj⟩, ⟨W, fun i j hi hj => ?_⟩⟩
 have e1 : cell m.cells C i j = mm R W (cell s.1 C) i j := by
  rw [mm_congr2 (B' := mm R (cell s.2 R) (cell m.cells C)) fun k hk => hU k j hk hj, ← mm_assoc, mm_congr1 (A' := oneM) fun k hk => hw2 i k hi hk, oneM_mm hi]
 rw [e1]
 unfold mm
 rw [sm_ext hNR fun k h1 h2 => by rw [hE.zero k h1 h2 j hj, Int.mul_zero]]
 exact sm_congr fun k hk => by rw [hcb k j hk hj]
def Ind (N C : Nat) (M : Mx) : Prop := ∀ a : Nat → Int, (∀ j, j < C → sm N (fun i => a i * M i j) = 0) → ∀ i, i < N → a i = 0
theorem stair_sum {N C : Nat} {b : List Int} {a : Nat → Int} {i : Nat} (hi : i < N) (hst : ∀ i, i < N → ∀ i', i < i' → i' < N → cell b C i' (fz (rowL b C i)) = 0) (h0 : ∀ q, q < i → a q = 0) : sm N (fun q => a q * cell b C q (fz (rowL b C i))) = a i * cell b C i (fz (rowL b C i)) :=
 sm_one hi fun q hq hne => by
  by_cases e : q < i
  ·rw [h0 q e, Int.zero_mul]
  ·rw [hst i hi q (by omega) hq, Int.mul_zero]
theorem bas_ind {m : Mat} {C N : Nat} {b : List Int} (hb : Bas m C N b) (h : basOk m = true) : Ind N C (cell b C) := by
 intro a ha
 have key : ∀ n, n ≤ N → ∀ i, i < n → a i = 0 := by
  intro n
  induction n with
  | zero => intro _ i hi; omega
  | succ n ih =>
   intro hn i hi
   by_cases e : i = n
   ·subst e
    obtain ⟨f1, f2⟩ := fz_row hb.len (show i < N by omega) (hb.full i (by omega))
    have h1 := ha _ f1
    rw [stair_sum (by omega) (bas_stair hb h) fun q hq => ih (by omega) q hq] at h1
    rcases Int.mul_eq_zero.1 h1 with h2 | h2
    ·exact h2
    ·exact (f2 h2).elim
   ·exact ih (by omega) i (by omega)
 exact key N (Nat.le_refl _)
def vecF (v : List Int) : Nat → Int := fun j => v.getD j 0
end Go.Proofs.YtoiblknchcoecaaGreat

namespace Go.Proofs.YtoiblknchcoecaaGreat
--BODY
theorem kern_parts {m : Mat} {R N : Nat} {b : List Int} (hk : Kern m R N b) (h : kerOk m = true) : ∃ (C : Nat) (s : HS), m.cols = (C : Int) ∧ m.cells.length = R * C ∧ NumL m.cells ∧ C ≤ 24 ∧ herm m.cells R C = some s ∧ basOk (kernM s C R) = true ∧ Bas (kernM s C R) R N b := by
 cases hB : isMatB m with
 | false =>
  have := (kerB_none (m := m) (by unfold hermR; rw [hB]; rfl)).1
  rw [this] at h; cases h
 | true =>
  obtain ⟨R', C, hmr, hmc, hR, hC, hl, hnum⟩ := isMatB_shape hB
  have hrows := hk.rows
  obtain rfl : R' = R := by omega
  obtain ⟨mr, mc, cells⟩ := m
  simp only at hmr hmc hl hnum
  subst hmr
  subst hmc
  cases hh : herm cells R' C with
  | none =>
   have := (kerB_none (m := { rows := (R' : Int), cols := (C : Int), cells := cells }) (by rw [hermR_mat hB]; exact hh)).1
   rw [this] at h; cases h
  | some s =>
   obtain ⟨k1, k2⟩ := kerB_some hB hh
   rw [k1] at h
   obtain ⟨C', N', b', hb'⟩ := bas_of h
   have e1 := hb'.eq
   rw [← k2, hk.eq] at e1
   have e2 := hb'.cols
   have e3 := congrArg Mat.rows e1
   have e4 := congrArg Mat.cells e1
   simp only at e3 e4
   have e5 : ((R' : Nat) : Int) = (C' : Int) := e2
   obtain rfl : C' = R' := by omega
   obtain rfl : N' = N := by omega
   subst e4
   exact ⟨C, s, rfl, hl, hnum, hC, hh, h, hb'⟩
theorem cell_drop {m : List Int} {R t i k : Nat} : cell (m.drop (t * R)) R i k = cell m R (t + i) k := by
 unfold cell
 rw [List.getD_eq_getElem?_getD, List.getD_eq_getElem?_getD, List.getElem?_drop, Nat.add_mul, Nat.add_assoc]
theorem kern_fact {m : Mat} {R N : Nat} {b : List Int} (hk : Kern m R N b) (h : kerOk m = true) : ∃ C : Nat, m.cols = (C : Int) ∧ m.cells.length = R * C ∧
  (∀ i j, i < N → j < C → mm R (cell b R) (cell m.cells C) i j = 0) ∧
  (∀ x : Nat → Int, (∀ j, j < C → sm R (fun i => x i * cell m.cells C i j) = 0) → Spn N R (cell b R) x) ∧
  (∃ W : Mx, ∀ i j, i < N → j < N → mm R (cell b R) W i j = oneM i j) ∧ Ind N R (cell b R) := by
 obtain ⟨C, s, hc, hl, hnum, hC, hh, hbk, hb⟩ := kern_parts hk h
 obtain ⟨hU, W, hw1, hw2⟩ := herm_fact hl hnum hh
 obtain ⟨hs, t, ht, hE⟩ := herm_spec hl hnum hh
 have et := ech_last hE R (Nat.le_refl _) ht
 obtain ⟨Q, hQ, hlQ, hf, hg⟩ := bas_rows hb hbk
 have hQt : Q = R - t := by
  have : (kernM s C R).rows = ((R - lastN s.1 C R : Nat) : Int) := rfl
  rw [this, et] at hQ; omega
 have hcell : ∀ i k, cell (kernM s C R).cells R i k = cell s.2 R (t + i) k := fun i k => by
  show cell (s.2.drop (lastN s.1 C R * R)) R i k = _
  rw [et]; exact cell_drop
 have hind := bas_ind hb hbk
 refine ⟨C, hc, hl, fun i j hi hj => ?_, fun x hx => ?_, ?_, hind⟩
 ·-- taken to 0
  obtain ⟨A, hA⟩ := hf
  rw [mm_congr1 (A' := mm Q A (cell (kernM s C R).cells R)) fun k hk' => hA i k hi hk', mm_assoc]
  refine sm_zero fun q hq => ?_
  have : mm R (cell (kernM s C R).cells R) (cell m.cells C) q j = 0 := by
   have e1 : mm R (cell (kernM s C R).cells R) (cell m.cells C) q j = mm R (cell s.2 R) (cell m.cells C) (t + q) j := sm_congr fun k _ => by rw [hcell]
   rw [e1, ← hU (t + q) j (by omega) hj]
   exact hE.zero (t + q) (by omega) (by omega) j hj
  rw [this, Int.mul_zero]
 ·-- made of them: x = (x W) U, and the first places of x W are 0
  obtain ⟨bb, hbb, hbo⟩ : ∃ bb, Bas m C t bb ∧ basOk m = true := by
   have hB : isMatB m = true := by
    cases hB : isMatB m with
    | true => rfl
    | false =>
     have := (kerB_none (m := m) (by unfold hermR; rw [hB]; rfl)).1
     rw [this] at h; cases h
   have hm : m = { rows := (R : Int), cols := (C : Int), cells := m.cells } := by
    obtain ⟨mr, mc, cells⟩ := m
    have := hk.rows
    simp only at this hc
    rw [this, hc]
   have hB2 := hB
   rw [hm] at hB2
   have hok := (basB_some hB2 hh).1
   rw [← hm] at hok
   obtain ⟨C', N', b', hb'⟩ := bas_of hok
   have hcc := hb'.cols
   obtain rfl : C' = C := by omega
   have e1 := hb'.eq
   rw [hm, (basB_some hB2 hh).2, et] at e1
   have e3 := congrArg Mat.rows e1
   simp only at e3
   obtain rfl : N' = t := by omega
   exact ⟨b', hb', hok⟩
  obtain ⟨R2, s2, hr2, -, -, -, hh2, -, -, -, hbs⟩ := basOk_parts hbb hbo
  have hrows := hk.rows
  obtain rfl : R2 = R := by omega
  have hss : s2 = s := Option.some.inj (hh2.symm.trans hh)
  subst hss
  have hcb : ∀ i k, i < t → k < C → cell bb C i k = cell s2.1 C i k := fun i k h1 h2 => by rw [hbs]; exact cell_take h1 h2
  let y : Nat → Int := fun k => sm R2 fun i => x i * W i k
  have hxy : ∀ k, k < R2 → x k = sm R2 fun i => y i * cell s2.2 R2 i k := fun k hk' => by
   have e1 : mm R2 (mm R2 (fun _ => x) W) (cell s2.2 R2) 0 k = x k := by
    rw [mm_assoc, mm_congr2 (B' := oneM) fun q hq => hw2 q k hq hk', mm_oneM hk']
   exact e1.symm
  have hyH : ∀ j, j < C → sm R2 (fun i => y i * cell s2.1 C i j) = 0 := fun j hj => by
   rw [sm_congr (g := fun i => y i * mm R2 (cell s2.2 R2) (cell m.cells C) i j) fun i hi => by rw [hU i j hi hj]]
   show mm R2 (fun _ => y) (mm R2 (cell s2.2 R2) (cell m.cells C)) 0 j = 0
   rw [← mm_assoc]
   have : ∀ k, k < R2 → mm R2 (fun _ => y) (cell s2.2 R2) 0 k = x k := fun k hk' => (hxy k hk').symm
   rw [mm_congr1 (A' := fun _ => x) fun k hk' => this k hk']
   exact hx j hj
  have hy0 : ∀ i, i < t → y i = 0 := bas_ind hbb hbo y fun j hj => by
   rw [← hyH j hj, sm_ext ht fun i h1 h2 => by rw [hE.zero i h1 h2 j hj, Int.mul_zero]]
   exact sm_congr fun i hi => by rw [hcb i j hi hj]
  have hK : Spn Q R2 (cell (kernM s2 C R2).cells R2) x := by
   refine ⟨fun i => y (t + i), fun k hk' => ?_⟩
   rw [hxy k hk', show R2 = t + Q by omega, sm_split, sm_zero (n := t) fun i hi => by rw [hy0 i hi, Int.zero_mul], Int.zero_add]
   refine sm_congr fun i _ => ?_
   rw [show t + Q = R2 by omega, hcell]
  exact Spn.of_rwf hK hg
 ·-- a right inverse
  obtain ⟨A, hA⟩ := hf
  obtain ⟨Y, hY⟩ := hg
  have e0 : ∀ q k, q < Q → k < Q → mm R (cell (kernM s C R).cells R) (fun i j => W i (t + j)) q k = oneM q k := fun q k hq hk' => by
   have e1 : mm R (cell (kernM s C R).cells R) (fun i j => W i (t + j)) q k = mm R (cell s.2 R) W (t + q) (t + k) := sm_congr fun i _ => by rw [hcell]
   rw [e1, hw1 (t + q) (t + k) (by omega) (by omega)]
   unfold oneM
   by_cases e : q = k
   ·rw [if_pos e, if_pos (by omega)]
   ·rw [if_neg e, if_neg (by omega)]
  refine ⟨mm Q (fun i j => W i (t + j)) Y, fun i j hi hj => ?_⟩
  rw [← mm_assoc]
  have e2 : ∀ k, k < Q → mm R (cell b R) (fun i j => W i (t + j)) i k = A i k := fun k hk' => by
   rw [mm_congr1 (A' := mm Q A (cell (kernM s C R).cells R)) fun q hq => hA i q hi hq, mm_assoc, mm_congr2 (B' := oneM) fun q hq => e0 q k hq hk', mm_oneM hk']
  rw [mm_congr1 (A' := A) e2]
  have e3 := hind (fun k => mm Q A Y i k - oneM i k) (fun k hk' => by
   rw [sm_congr (g := fun q => mm Q A Y i q * cell b R q k + -(oneM i q * cell b R q k)) fun q _ => by rw [Int.sub_mul]; omega, sm_add, sm_neg]
   have e4 : sm N (fun q => oneM i q * cell b R q k) = cell b R i k := oneM_mm (n := N) (A := cell b R) (i := i) (j := k) hi
   have e5 : sm N (fun q => mm Q A Y i q * cell b R q k) = cell b R i k := by
    show mm N (mm Q A Y) (cell b R) i k = _
    rw [mm_assoc, mm_congr2 (B' := cell (kernM s C R).cells R) fun q hq => (hY q k hq hk').symm]
    exact (hA i k hi hk').symm
   rw [e4, e5]; omega) j hj
  omega
theorem cell_app1 {a b : List Int} {C R i k : Nat} (hl : a.length = R * C) (hi : i < R) (hk : k < C) : cell (a ++ b) C i k = cell a C i k := by
 have := place_lt (C := C) hk hi
 unfold cell
 rw [List.getD_eq_getElem?_getD, List.getD_eq_getElem?_getD, List.getElem?_append_left (by omega)]
theorem cell_app2 {a b : List Int} {C R i k : Nat} (hl : a.length = R * C) : cell (a ++ b) C (R + i) k = cell b C i k := by
 unfold cell
 rw [List.getD_eq_getElem?_getD, List.getD_eq_getElem?_getD, List.getElem?_append_right (by rw [Nat.add_mul]; omega), hl, Nat.add_mul]
 congr 2; omega
theorem dotN_sm (a b : List Int) (n c i j : Nat) : ∀ k, dotN a b n c i j k = sm k fun q => cell a n i q * cell b c q j
 | 0 => rfl
 | k + 1 => by simp only [dotN, sm]; rw [dotN_sm a b n c i j k]; rfl
theorem mRow_getD {a b : List Int} {n c r i : Nat} (hi : i < r) : ∀ {j : Nat} {cells : List Int}, j ≤ c → cells.length = r * c → ∀ i' j', j' < c → cell (mRow a b n c i j cells) c i' j' = if i' = i ∧ j' < j then dotN a b n c i j' n else cell cells c i' j'
 | 0, cells, _, _, i', j', _ => by rw [if_neg (by omega)]; rfl
 | j + 1, cells, hj, hl, i', j', hj' => by
  have hp := place_lt (C := c) (show j < c by omega) hi
  have ih := mRow_getD (a := a) (b := b) (n := n) hi (j := j) (by omega) hl i' j' hj'
  unfold cell at ih ⊢
  unfold mRow
  rw [getD_setL (by rw [mRow_len]; omega)]
  by_cases e : i' * c + j' = i * c + j
  ·obtain ⟨rfl, rfl⟩ := place_eq hj' (by omega) e
   rw [if_pos rfl, if_pos ⟨rfl, by omega⟩]
  ·rw [if_neg e, ih]
   have : (i' = i ∧ j' < j + 1) ↔ (i' = i ∧ j' < j) := by
    constructor
    ·rintro ⟨h1, h2⟩
     refine ⟨h1, ?_⟩
     have : j' ≠ j := fun e2 => e (by rw [h1, e2])
     omega
    ·rintro ⟨h1, h2⟩; exact ⟨h1, by omega⟩
   simp only [this]
theorem mRows_cell {a b : List Int} {n c r : Nat} : ∀ {i : Nat}, i ≤ r → ∀ i' j', i' < i → j' < c → cell (mRows a b n c r i) c i' j' = mm n (cell a n) (cell b c) i' j'
 | 0, _, i', j', h, _ => by omega
 | i + 1, hi, i', j', h, hj' => by
  unfold mRows
  rw [mRow_getD (by omega) (Nat.le_refl _) (mRows_len _ _ _ _ _ _) i' j' hj']
  by_cases e : i' = i
  ·rw [if_pos ⟨e, hj'⟩, e, dotN_sm]; rfl
  ·rw [if_neg (by omega)]; exact mRows_cell (by omega) i' j' (by omega) hj'
theorem cutL_cell {m : List Int} {K R n : Nat} (hl : m.length = R * K) (hn : n ≤ K) : ∀ {t : Nat}, t ≤ R → ∀ i k, i < t → k < n → cell (cutL m K n t) n i k = cell m K i k
 | 0, _, i, k, h, _ => by omega
 | t + 1, ht, i, k, h, hk => by
  rw [cutL_succ]
  by_cases e : i = t
  ·have h1 := cell_app2 (a := cutL m K n t) (b := (rowL m K t).take n) (C := n) (R := t) (i := 0) (k := k) (cutL_len hl hn (by omega))
   rw [Nat.add_zero] at h1
   rw [e, h1]
   unfold cell
   rw [List.getD_eq_getElem?_getD, Nat.zero_mul, Nat.zero_add, List.getElem?_take, if_pos hk, rowL_at hl (by omega) (by omega)]
   rfl
  ·rw [cell_app1 (R := t) (cutL_len hl hn (by omega)) (by omega) hk]
   exact cutL_cell hl hn (by omega) i k (by omega) hk
theorem row_vec {m : List Int} {C R i : Nat} (hl : m.length = R * C) (hi : i < R) : ∀ j, j < C → vecF (rowL m C i) j = cell m C i j := fun j hj => by
 unfold vecF
 rw [List.getD_eq_getElem?_getD, rowL_at hl hi hj]; rfl
theorem mul_parts {f g : Mat} (h : mulOk f g = true) : ∃ R C D : Nat, f.rows = (R : Int) ∧ f.cols = (C : Int) ∧ g.rows = (C : Int) ∧ g.cols = (D : Int) ∧ f.cells.length = R * C ∧ g.cells.length = C * D ∧ (mulB f g).rows = (R : Int) ∧ (mulB f g).cols = (D : Int) ∧ (mulB f g).cells.length = R * D ∧ ∀ i j, i < R → j < D → cell (mulB f g).cells D i j = mm C (cell f.cells C) (cell g.cells D) i j := by
 have h0 := h
 unfold mulOk mulFit at h
 simp only [Bool.and_eq_true, beq_iff_eq] at h
 obtain ⟨⟨⟨h1, h2⟩, h3⟩, h4⟩ := h
 obtain ⟨R, C, a1, a2, -, -, a3, -⟩ := isMatB_shape h1
 obtain ⟨C', D, b1, b2, -, -, b3, -⟩ := isMatB_shape h2
 obtain rfl : C' = C := by omega
 have e : mulB f g = mulM f g := by
  unfold mulOk at h0
  rw [Bool.and_eq_true] at h0
  unfold mulB okM
  rw [if_pos h0.1, if_pos h0.2]
 have ec : (mulM f g).cells = mRows f.cells g.cells C' D R R := by
  show mRows f.cells g.cells f.cols.toNat g.cols.toNat f.rows.toNat f.rows.toNat = _
  rw [a1, a2, b2]; rfl
 refine ⟨R, C', D, a1, a2, b1, b2, a3, b3, by rw [e]; exact a1, by rw [e]; exact b2, by rw [e, ec]; exact mRows_len _ _ _ _ _ _, fun i j hi hj => ?_⟩
 rw [e, ec]
 exact mRows_cell (Nat.le_refl _) i j hi hj
theorem stack_parts {a b : Mat} (h : stackOk a b = true) : ∃ R R' C : Nat, a.rows = (R : Int) ∧ b.rows = (R' : Int) ∧ a.cols = (C : Int) ∧ b.cols = (C : Int) ∧ a.cells.length = R * C ∧ b.cells.length = R' * C ∧ (stackB a b).rows = ((R + R' : Nat) : Int) ∧ (stackB a b).cols = (C : Int) ∧ (stackB a b).cells = a.cells ++ b.cells := by
 have h0 := h
 unfold stackOk at h
 simp only [Bool.and_eq_true, decide_eq_true_eq] at h
 obtain ⟨h1, h2, h3, -⟩ := h
 obtain ⟨R, C, a1, a2, -, -, a3, -⟩ := isMatB_shape h1
 obtain ⟨R', C', b1, b2, -, -, b3, -⟩ := isMatB_shape h2
 obtain rfl : C' = C := by omega
 rw [(stack_yes h0).2]
 exact ⟨R, R', C', a1, b1, a2, b2, a3, b3, by show a.rows + b.rows = _; rw [a1, b1]; simp, a2, rfl⟩
end Go.Proofs.YtoiblknchcoecaaGreat
