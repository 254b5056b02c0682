/-
  Where all rows but the first hold small numbers alone, the first two of three factors are small: plain.
-/
import Derived.Test.YtoiblknchcoecaaGreatZIdxS
import Derived.Test.YtoiblknchcoecaaGreatZSmD
import Derived.Test.YtoiblknchcoecaaGreatZLatB
import Derived.Test.YtoiblknchcoecaaGreatZQuo
import Derived.Test.YtoiblknchcoecaaGreatZMods
import Derived.Test.YtoiblknchcoecaaGreatZCok
set_option maxHeartbeats 8000000
set_option maxRecDepth 100000
namespace Go.Proofs.YtoiblknchcoecaaGreat
theorem minor_mul (l e a b x y w w' v v' : Int) : l * (l * e) ∣ (l * a * x + l * e * w) * (l * b * y + l * e * v') - (l * a * y + l * e * w') * (l * b * x + l * e * v) :=
 ⟨a * x * v' + b * y * w - a * y * v - b * x * w' + e * (w * v' - w' * v), by grind⟩
theorem fac_minor {m : Mat} {R : Nat} {L : List Int} (h : Fac m R 3 L) (hL : L.length = 3) {i i' j j' : Nat} (hi : i < R) (hi' : i' < R) (hj : j < 3) (hj' : j' < 3) :
  dS L 0 * dS L 1 ∣ cell m.cells 3 i j * cell m.cells 3 i' j' - cell m.cells 3 i j' * cell m.cells 3 i' j := by
 obtain ⟨A, B, hAB⟩ := h.bw
 obtain ⟨e, he⟩ := h.dv 0 1 (by omega)
 obtain ⟨g, hg⟩ := h.dv 1 2 (by omega)
 have hle := h.le
 have hR : 3 ≤ R := by omega
 have key : ∀ i j, i < R → j < 3 → cell m.cells 3 i j = dS L 0 * A i 0 * B 0 j + dS L 0 * e * (A i 1 * B 1 j + g * A i 2 * B 2 j) := fun i j hi hj => by
  rw [hAB i j hi hj]
  have e1 : ∀ q, q < 3 → mm R A (Dg (dS L)) i q = A i q * dS L q := fun q hq => by
   show sm R (fun k => A i k * Dg (dS L) k q) = _
   rw [sm_one (c := q) (by omega) fun k _ hne => by rw [Dg_ne hne, Int.mul_zero], Dg_self]
  have e2 : mm 3 (mm R A (Dg (dS L))) B i j = A i 0 * dS L 0 * B 0 j + A i 1 * dS L 1 * B 1 j + A i 2 * dS L 2 * B 2 j := by
   show sm 3 (fun q => mm R A (Dg (dS L)) i q * B q j) = _
   simp only [sm]
   rw [e1 0 (by omega), e1 1 (by omega), e1 2 (by omega)]
   omega
  rw [e2, hg, he]
  grind
 rw [key i j hi hj, key i' j' hi' hj', key i j' hi hj', key i' j hi' hj, he]
 exact minor_mul ..
theorem absorb {a b : Int} (ha : -40 ≤ a ∧ a ≤ 40) (hb : -40 ≤ b ∧ b ≤ 40) : -1600 ≤ a * b ∧ a * b ≤ 1600 := by
 have h1 : a.natAbs ≤ 40 := by omega
 have h2 : b.natAbs ≤ 40 := by omega
 have h3 := Nat.mul_le_mul h1 h2
 rw [← Int.natAbs_mul] at h3
 omega
theorem full_zero {m : Mat} {C R : Nat} (hf : facOk m = true) (hr : m.rows = (R : Int)) (hc : m.cols = (C : Int)) (hL : (facB m).length = C) {z : Nat → Int} (hz : ∀ i, i < R → sm C (fun j => cell m.cells C i j * z j) = 0) : ∀ j, j < C → z j = 0 := by
 obtain ⟨R0, C0, hF⟩ := fac_of hf
 obtain rfl : C0 = C := by have := hF.cols; omega
 intro j hj
 have hpos := hF.pos (C0 - 1) (by omega)
 obtain ⟨R', hr', hS⟩ := fac_last hf hc hL (e := dS (facB m) (C0 - 1)) fun q hq => hF.dv q (C0 - 1) (by omega)
 obtain rfl : R' = R := by omega
 obtain ⟨a, ha⟩ := hS fun k => if k = j then 1 else 0
 have h1 : sm C0 (fun k => dS (facB m) (C0 - 1) * (if k = j then 1 else 0) * z k) = dS (facB m) (C0 - 1) * z j := by
  rw [sm_one (c := j) hj fun k _ hne => by rw [if_neg hne, Int.mul_zero, Int.zero_mul], if_pos rfl, Int.mul_one]
 have h2 : sm C0 (fun k => dS (facB m) (C0 - 1) * (if k = j then 1 else 0) * z k) = 0 := by
  rw [sm_congr (g := fun k => sm R' fun i => a i * cell m.cells C0 i k * z k) fun k hk => by
   have := ha k hk
   simp only at this
   rw [this, ← sm_mulr], sm_swap]
  refine sm_zero fun i hi => ?_
  rw [sm_congr (g := fun k => a i * (cell m.cells C0 i k * z k)) fun k _ => Int.mul_assoc _ _ _, sm_mul, hz i hi, Int.mul_zero]
 rw [h1] at h2
 rcases Int.mul_eq_zero.1 h2 with h | h
 ·omega
 ·exact h
theorem two_small {m : Mat} {R : Nat} (hf : facOk m = true) (hr : m.rows = (R : Int)) (hc : m.cols = (3 : Int)) (hL : (facB m).length = 3) (hs : ∀ i j, 1 ≤ i → i < R → j < 3 → -40 ≤ cell m.cells 3 i j ∧ cell m.cells 3 i j ≤ 40) :
  dS (facB m) 0 * dS (facB m) 1 ≤ 3200 := by
 obtain ⟨R0, C0, hF⟩ := fac_of hf
 obtain rfl : C0 = 3 := by have := hF.cols; omega
 obtain rfl : R0 = R := by have := hF.rows; omega
 have hle := hF.le
 by_cases hm : ∃ i i' j j', 1 ≤ i ∧ i < R0 ∧ 1 ≤ i' ∧ i' < R0 ∧ j < 3 ∧ j' < 3 ∧ cell m.cells 3 i j * cell m.cells 3 i' j' - cell m.cells 3 i j' * cell m.cells 3 i' j ≠ 0
 ·obtain ⟨i, i', j, j', h1, h2, h3, h4, h5, h6, hne⟩ := hm
  have hd := fac_minor hF hL h2 h4 h5 h6
  have b1 := absorb (hs i j h1 h2 h5) (hs i' j' h3 h4 h6)
  have b2 := absorb (hs i j' h1 h2 h6) (hs i' j h3 h4 h5)
  have := Nat.le_of_dvd (Int.natAbs_pos.2 hne) (Int.natAbs_dvd_natAbs.2 hd)
  omega
 ·exfalso
  have hm' : ∀ i i' j j', 1 ≤ i → i < R0 → 1 ≤ i' → i' < R0 → j < 3 → j' < 3 → cell m.cells 3 i j * cell m.cells 3 i' j' = cell m.cells 3 i j' * cell m.cells 3 i' j := fun i i' j j' h1 h2 h3 h4 h5 h6 => by
   refine Classical.byContradiction fun hne => hm ⟨i, i', j, j', h1, h2, h3, h4, h5, h6, by omega⟩
  obtain ⟨w, hw⟩ : ∃ w : Nat → Int, ∀ z : Nat → Int, sm 3 (fun j => w j * z j) = 0 → ∀ i, 1 ≤ i → i < R0 → sm 3 (fun j => cell m.cells 3 i j * z j) = 0 := by
   by_cases hz : ∃ i j, 1 ≤ i ∧ i < R0 ∧ j < 3 ∧ cell m.cells 3 i j ≠ 0
   ·obtain ⟨i0, j0, h1, h2, h3, hne⟩ := hz
    refine ⟨cell m.cells 3 i0, fun z hz i hi hiR => ?_⟩
    have h4 : cell m.cells 3 i0 j0 * sm 3 (fun j => cell m.cells 3 i j * z j) = cell m.cells 3 i j0 * sm 3 (fun j => cell m.cells 3 i0 j * z j) := by
     rw [← sm_mul, ← sm_mul]
     refine sm_congr fun j hj => ?_
     rw [← Int.mul_assoc, ← Int.mul_assoc, hm' i0 i j0 j h1 h2 hi hiR h3 hj, Int.mul_comm (cell m.cells 3 i0 j)]
    rw [hz, Int.mul_zero] at h4
    rcases Int.mul_eq_zero.1 h4 with h | h
    ·exact absurd h hne
    ·exact h
   ·refine ⟨fun _ => 0, fun z _ i hi hiR => sm_zero fun j hj => ?_⟩
    have : cell m.cells 3 i j = 0 := Classical.byContradiction fun hne => hz ⟨i, j, hi, hiR, hj, hne⟩
    rw [this, Int.zero_mul]
  obtain ⟨z, hz, ⟨j, hj, hne⟩, -, -⟩ := siegelP (n := 2) (k := 3) (fun a k => if a = 0 then cell m.cells 3 0 k else w k) (by omega)
  refine hne (full_zero hf hr hc hL (z := z) (fun i hi => ?_) j hj)
  by_cases e : i = 0
  ·subst e
   exact hz 0 (by omega)
  ·exact hw z (hz 1 (by omega)) i (by omega) hi
theorem prd_small {L : List Int} (hn : ∀ x ∈ L, x ≤ 400000000) (h3 : L.length ≤ 3) (h2 : L.length = 3 → (∀ i, i < 3 → 1 < dS L i) → dS L 0 * dS L 1 ≤ 3200) : ∀ k, k < (gt1 L).length → prd ((gt1 L).take k) < 1073741824 := by
 intro k hk
 have hlen : (gt1 L).length ≤ L.length := List.length_filter_le _ _
 rcases (show k = 0 ∨ k = 1 ∨ k = 2 by omega) with rfl | rfl | rfl
 ·simp [prd]
 ·obtain ⟨x, hx⟩ : ∃ x, (gt1 L)[0]? = some x := ⟨_, List.getElem?_eq_getElem (by omega)⟩
  have h1 := hn x (gt1_mem (List.mem_of_getElem? hx)).1
  rw [take_succ hx]
  simp [prd]; omega
 ·have hL3 : L.length = 3 := by omega
  have he : gt1 L = L := by
   unfold gt1
   exact List.filter_eq_self.2 (List.length_filter_eq_length_iff.1 (by unfold gt1 at hk hlen; omega))
  rw [he] at hk ⊢
  have hgt : ∀ i, i < 3 → 1 < dS L i := fun i hi => by
   have hx : L[i]? = some L[i] := List.getElem?_eq_getElem (by omega)
   rw [dS_at hx]
   have : L[i] ∈ gt1 L := by rw [he]; exact List.getElem_mem _
   exact (gt1_mem this).2
  have h4 := h2 hL3 hgt
  have hx0 : L[0]? = some L[0] := List.getElem?_eq_getElem (by omega)
  have hx1 : L[1]? = some L[1] := List.getElem?_eq_getElem (by omega)
  rw [take_succ hx1, take_succ hx0, prd_snoc, prd_snoc]
  rw [dS_at hx0, dS_at hx1] at h4
  simp [prd]; omega
end Go.Proofs.YtoiblknchcoecaaGreat

namespace Go.Proofs.YtoiblknchcoecaaGreat
theorem sm_first (f : Nat → Int) (n : Nat) : sm (n + 1) f = f 0 + sm n fun i => f (i + 1) := by
 rw [Nat.add_comm n 1, sm_split f 1 n]
 show (0 + f 0) + sm n (fun i => f (1 + i)) = _
 rw [Int.zero_add]
 congr 1
 exact sm_congr fun i _ => by rw [Nat.add_comm]
theorem zeroL_at {x : List Int} (h : zeroL x = true) (k : Nat) : vecF x k = 0 := by
 unfold vecF
 rw [List.getD_eq_getElem?_getD]
 cases e : x[k]? with
 | none => rfl
 | some y =>
  unfold zeroL at h
  have := List.all_eq_true.1 h y (List.mem_of_getElem? e)
  simpa using this
theorem coN_span {b : List Int} {C : Nat} : ∀ {n i : Nat} {x out y : List Int}, x.length = C → coN b C n i x out = some y → ∃ qs : List Int, y = out ++ qs ∧ qs.length = n ∧ ∀ k, k < C → vecF x k = sm n fun t => vecF qs t * cell b C (i + t) k
 | 0, i, x, out, y, hl, h => by
  simp only [coN] at h
  split at h
  ·rename_i hz
   obtain rfl := Option.some.inj h
   exact ⟨[], by simp, rfl, fun k _ => zeroL_at hz k⟩
  ·cases h
 | n + 1, i, x, out, y, hl, h => by
  by_cases h0 : coM b C i x = 0
  ·cases hk : nrmOk b C i x (coQ b C i x) with
   | false => rw [coN_no h0 hk] at h; cases h
   | true =>
    rw [coN_yes h0 hk] at h
    obtain ⟨qs, e1, e2, e3⟩ := coN_span (by rw [updR_len]; exact hl) h
    refine ⟨coQ b C i x :: qs, by rw [e1]; simp, by simp [e2], fun k hk' => ?_⟩
    have e4 := e3 k hk'
    have e5 : vecF (updR (nrmV b C i x (coQ b C i x)) 0 C x) k = vecF x k - cell b C i k * coQ b C i x := by
     unfold vecF
     rw [updR_getD (by omega), if_pos (by omega), Nat.sub_zero]; rfl
    rw [sm_first]
    have e6 : sm n (fun t => vecF (coQ b C i x :: qs) (t + 1) * cell b C (i + (t + 1)) k) = sm n fun t => vecF qs t * cell b C (i + 1 + t) k :=
     sm_congr fun t _ => by
      rw [show i + (t + 1) = i + 1 + t by omega]; rfl
    rw [e6, ← e4, e5]
    show vecF x k = coQ b C i x * cell b C (i + 0) k + _
    rw [Nat.add_zero, Int.mul_comm (coQ b C i x)]; omega
  ·rw [coN_mod h0] at h; cases h
theorem coL_span {l : Mat} {C N : Nat} (hL : Lat l C N) {v : List Int} (hv : v.length = C) (h : coOk l v = true) : (coL l v).length = N ∧ ∀ k, k < C → vecF v k = sm N fun t => vecF (coL l v) t * cell l.cells C t k := by
 obtain ⟨x, hx⟩ := Option.isSome_iff_exists.1 (show (coR l v).isSome = true from h)
 rw [(co_some hx).2]
 cases hin : coIn l v with
 | false => rw [coR_no hin] at hx; cases hx
 | true =>
  rw [coR_yes hL hin] at hx
  obtain ⟨qs, e1, e2, e3⟩ := coN_span hv hx
  rw [List.nil_append] at e1
  subst e1
  exact ⟨e2, fun k hk => by rw [e3 k hk]; exact sm_congr fun t _ => by rw [Nat.zero_add]⟩
theorem cmC_cell {l s : Mat} {C N C' N' : Nat} (hL : Lat l C N) (hS : Lat s C' N') : ∀ {n : Nat}, (∀ i, i < n → coOk l (rowL s.cells C' i) = true) → ∀ i j, i < n → j < N → cell (cmC l s n) N i j = vecF (coL l (rowL s.cells C' i)) j
 | 0, _, i, j, hi, _ => by omega
 | n + 1, h, i, j, hi, hj => by
  have hlen := (cmC_spec (n := n) hL hS fun i hi => h i (by omega)).2
  rw [cmC_succ hS]
  by_cases e : i = n
  ·subst e
   have := cell_app2 (a := cmC l s i) (b := coL l (rowL s.cells C' i)) (C := N) (R := i) (i := 0) (k := j) hlen
   rw [Nat.add_zero] at this
   rw [this]
   unfold cell vecF
   rw [Nat.zero_mul, Nat.zero_add]
  ·rw [cell_app1 (R := n) hlen (by omega) hj]
   exact cmC_cell hL hS (fun i hi => h i (by omega)) i j (by omega) hj
theorem cm_parts {l s : Mat} (h : cmOk l s = true) : ∃ C N N', Lat l C N ∧ Lat s C N' ∧ (cmB l s).rows = ((N' : Nat) : Int) ∧ (cmB l s).cols = ((N : Nat) : Int) ∧ ∀ i k, i < N' → k < C → cell s.cells C i k = mm N (cell (cmB l s).cells N) (cell l.cells C) i k := by
 have h0 := h
 unfold cmOk at h
 rw [Bool.and_eq_true] at h
 obtain ⟨h1, h2⟩ := h
 have h1' := h1
 unfold cmIs at h1'
 rw [Bool.and_eq_true, Bool.and_eq_true, decide_eq_true_eq] at h1'
 obtain ⟨C, N, hL⟩ := lat_of h1'.1
 obtain ⟨C', N', hS⟩ := lat_of h1'.2.1
 obtain rfl : C' = C := by have := hL.cols; have := hS.cols; omega
 have ha : ∀ i, i < N' → coOk l (rowL s.cells C' i) = true := fun i hi => by
  unfold cmAll at h2
  rw [hS.rows, hS.cols] at h2
  have := all_at h2 (show i < ((N' : Nat) : Int).toNat by simpa using hi)
  simpa using this
 have hy := (cm_yes hS h1 ha).2
 refine ⟨C', N, N', hL, hS, by rw [hy], by rw [hy]; exact hL.rows, fun i k hi hk => ?_⟩
 rw [hy]
 have hrl := rowL_len hS.len hi
 have h3 := (coL_span hL hrl (ha i hi)).2 k hk
 rw [row_vec hS.len hi k hk] at h3
 rw [h3]
 exact sm_congr fun t ht => by rw [cmC_cell hL hS ha i t hi ht]
end Go.Proofs.YtoiblknchcoecaaGreat

namespace Go.Proofs.YtoiblknchcoecaaGreat
theorem stack_spn {a b : Mat} (h : stackOk a b = true) {R R' C : Nat} (hr : a.rows = (R : Int)) (hr' : b.rows = (R' : Int)) (hc : a.cols = (C : Int)) (u : Vc) :
  Spn (R + R') C (cell (stackB a b).cells C) u ↔ ∃ x y : Nat → Int, ∀ j, j < C → u j = sm R (fun i => x i * cell a.cells C i j) + sm R' fun i => y i * cell b.cells C i j := by
 obtain ⟨R1, R1', C1, s1, s2, s3, s4, s5, s6, s7, s8, s9⟩ := stack_parts h
 obtain rfl : R1 = R := by omega
 obtain rfl : R1' = R' := by omega
 obtain rfl : C1 = C := by omega
 rw [s9]
 constructor
 ·rintro ⟨c, hcc⟩
  refine ⟨c, fun i => c (R1 + i), fun j hj => ?_⟩
  rw [hcc j hj, sm_split]
  congr 1
  ·exact sm_congr fun i hi => by rw [cell_app1 s5 hi hj]
  ·exact sm_congr fun i hi => by rw [cell_app2 s5]
 ·rintro ⟨x, y, hxy⟩
  refine ⟨fun i => if i < R1 then x i else y (i - R1), fun j hj => ?_⟩
  rw [hxy j hj, sm_split]
  congr 1
  ·exact sm_congr fun i hi => by
    show x i * cell a.cells C1 i j = (if i < R1 then x i else y (i - R1)) * cell (a.cells ++ b.cells) C1 i j
    rw [if_pos hi, cell_app1 s5 hi hj]
  ·exact sm_congr fun i hi => by
    show y i * cell b.cells C1 i j = (if R1 + i < R1 then x (R1 + i) else y (R1 + i - R1)) * cell (a.cells ++ b.cells) C1 (R1 + i) j
    rw [if_neg (by omega), cell_app2 s5, Nat.add_sub_cancel_left]
theorem tz_full {s f : Mat} (h : tzOk s f = true) {A C Ns : Nat} {bs : List Int} (hf : f.rows = (A : Int)) (hfc : f.cols = (C : Int)) (hbs : Bas s C Ns bs) :
  ∃ (N t : Nat) (k bb : List Int), tzB s f = { rows := (N : Int), cols := (A : Int), cells := k } ∧ Ind N A (cell k A) ∧ (∀ v, Spn N A (cell k A) v ↔ Spn Ns C (cell bs C) fun j => sm A fun q => v q * cell f.cells C q j) ∧
   Bas (stackB f (basB s)) C t bb ∧ basOk (stackB f (basB s)) = true ∧ N + t = A + Ns ∧ stackOk f (basB s) = true := by
 have h0 := h
 unfold tzOk at h
 rw [Bool.and_eq_true] at h
 obtain ⟨h1, h2⟩ := h
 obtain ⟨F, R, N', b', e1, hFR, hk, e2⟩ := tz_shape h1
 obtain rfl : F = A := by omega
 obtain ⟨C2, N2, b2, hb2⟩ := bas_of h2
 have hc2 := hb2.cols
 rw [e2] at hc2
 simp only at hc2
 obtain rfl : C2 = F := by omega
 obtain ⟨Q, hQ, hlQ, hrf, hrg⟩ := bas_rows hb2 h2
 rw [e2] at hQ hlQ hrf hrg
 simp only at hQ hlQ hrf hrg
 obtain rfl : Q = N' := by omega
 have hbi := bas_ind hb2 h2
 have htz1 := h1
 unfold tz1 at h1
 rw [Bool.and_eq_true, Bool.and_eq_true] at h1
 obtain ⟨hbo, hso, hko⟩ := h1
 obtain ⟨D', hD', hlS, hz, honto, -, hind⟩ := kern_fact hk hko
 obtain ⟨C0, t, bb, hbb, hbbo, hNt⟩ := kern_count hk hko
 obtain ⟨Rg, Rb, Cg, s1, s2, s3, s4, s5, s6, s7, s8, s9⟩ := stack_parts hso
 have heq := hbs.eq
 have s9' := s9
 rw [heq] at s2 s4 s6 s9
 simp only at s2 s4 s6 s9
 obtain rfl : Rg = C2 := by omega
 obtain rfl : Rb = Ns := by omega
 obtain rfl : Cg = C := by omega
 obtain rfl : D' = Cg := by rw [s8] at hD'; omega
 obtain rfl : C0 = D' := by have := hbb.cols; rw [s8] at this; omega
 have hkr := hk.rows
 rw [s7] at hkr
 obtain rfl : R = Rg + Rb := by omega
 have ec : (stackB f (basB s)).cells = f.cells ++ bs := by rw [s9', heq]
 rw [ec] at hz honto
 have hsi := bas_ind hbs hbo
 have hsplit : ∀ (x : Nat → Int) (j : Nat), j < C0 → sm (Rg + Rb) (fun i => x i * cell (f.cells ++ bs) C0 i j) = sm Rg (fun q => x q * cell f.cells C0 q j) + sm Rb fun q => x (Rg + q) * cell bs C0 q j := fun x j hj => by
  rw [sm_split]
  congr 1
  ·exact sm_congr fun q hq => by rw [cell_app1 s5 hq hj]
  ·exact sm_congr fun q hq => by rw [cell_app2 s5]
 have hcut : ∀ i q, i < Q → q < Rg → cell (cutL b' (Rg + Rb) Rg Q) Rg i q = cell b' (Rg + Rb) i q := fun i q hi hq => cutL_cell hk.len hFR (Nat.le_refl _) i q hi hq
 have hzero : ∀ (a : Nat → Int) (j : Nat), j < C0 → sm (Rg + Rb) (fun p => sm Q (fun i => a i * cell b' (Rg + Rb) i p) * cell (f.cells ++ bs) C0 p j) = 0 := fun a j hj => by
  have e : sm (Rg + Rb) (fun p => sm Q (fun i => a i * cell b' (Rg + Rb) i p) * cell (f.cells ++ bs) C0 p j) = mm (Rg + Rb) (mm Q (fun _ => a) (cell b' (Rg + Rb))) (cell (f.cells ++ bs) C0) 0 j := rfl
  rw [e, mm_assoc]
  exact sm_zero fun i hi => by rw [hz i j hi hj, Int.mul_zero]
 have hic : Ind Q Rg (cell (cutL b' (Rg + Rb) Rg Q) Rg) := by
  intro a ha
  have hx0 : ∀ q, q < Rg → sm Q (fun i => a i * cell b' (Rg + Rb) i q) = 0 := fun q hq => by
   rw [← ha q hq]
   exact sm_congr fun i hi => by rw [hcut i q hi hq]
  have hx1 : ∀ q, q < Rb → sm Q (fun i => a i * cell b' (Rg + Rb) i (Rg + q)) = 0 := hsi (fun q => sm Q fun i => a i * cell b' (Rg + Rb) i (Rg + q)) fun j hj => by
   have h5 := hzero a j hj
   rw [hsplit _ j hj, sm_zero fun q hq => by rw [hx0 q hq, Int.zero_mul], Int.zero_add] at h5
   exact h5
  exact hind a fun p hp => by
   by_cases e : p < Rg
   ·exact hx0 p e
   ·have := hx1 (p - Rg) (by omega)
    rwa [show Rg + (p - Rg) = p by omega] at this
 have hNN : N2 = Q := Nat.le_antisymm (ind_fle hbi hrf.fct) (ind_fle hic hrg.fct)
 refine ⟨N2, t, b2, bb, by rw [(tz_yes htz1).2]; exact hb2.eq, hbi, fun v => ⟨fun hv => ?_, fun hv => ?_⟩, hbb, hbbo, by omega, hso⟩
 ·obtain ⟨a, ha⟩ := Spn.of_rwf hv hrf
  refine ⟨fun q => -sm Q (fun i => a i * cell b' (Rg + Rb) i (Rg + q)), fun j hj => ?_⟩
  have h5 := hzero a j hj
  rw [hsplit _ j hj] at h5
  have e4 : sm Rb (fun q => -sm Q (fun i => a i * cell b' (Rg + Rb) i (Rg + q)) * cell bs C0 q j) = -sm Rb (fun q => sm Q (fun i => a i * cell b' (Rg + Rb) i (Rg + q)) * cell bs C0 q j) := by
   rw [← sm_neg]; exact sm_congr fun q _ => Int.neg_mul _ _
  have e5 : sm Rg (fun q => v q * cell f.cells C0 q j) = sm Rg (fun q => sm Q (fun i => a i * cell b' (Rg + Rb) i q) * cell f.cells C0 q j) := sm_congr fun q hq => by
   rw [ha q hq]
   congr 1
   exact sm_congr fun i hi => by rw [hcut i q hi hq]
  show sm Rg (fun q => v q * cell f.cells C0 q j) = _
  rw [e4, e5]
  omega
 ·obtain ⟨c, hcc⟩ := hv
  have hx := honto (fun i => if i < Rg then v i else -c (i - Rg)) fun j hj => by
   rw [hsplit _ j hj]
   have e4 : sm Rg (fun q => (if q < Rg then v q else -c (q - Rg)) * cell f.cells C0 q j) = sm Rg (fun q => v q * cell f.cells C0 q j) := sm_congr fun q hq => by rw [if_pos hq]
   have e5 : sm Rb (fun q => (if Rg + q < Rg then v (Rg + q) else -c (Rg + q - Rg)) * cell bs C0 q j) = -sm Rb (fun q => c q * cell bs C0 q j) := by
    rw [← sm_neg]
    exact sm_congr fun q _ => by rw [if_neg (by omega), Nat.add_sub_cancel_left, Int.neg_mul]
   have e6 := hcc j hj
   simp only at e6
   rw [e4, e5, e6]
   omega
  obtain ⟨a, ha⟩ := hx
  refine Spn.of_rwf ⟨a, fun q hq => ?_⟩ hrg
  have : (if q < Rg then v q else -c (q - Rg)) = _ := ha q (by omega)
  rw [if_pos hq] at this
  rw [this]
  exact sm_congr fun i hi => by rw [hcut i q hi hq]
theorem quo_fac {l s : Mat} {A N n : Nat} {k b : List Int} (hl : l = { rows := (N : Int), cols := (A : Int), cells := k }) (hs : s = { rows := (n : Int), cols := (A : Int), cells := b }) (hq : quOk l s = true) (hk : Ind N A (cell k A)) (hb : Ind n A (cell b A)) :
  facOk (cmB l s) = true ∧ n = (facB (cmB l s)).length ∧ n ≤ N ∧ quN l s = (N : Int) - n ∧ quB l s = gt1 (facB (cmB l s)) ∧ Fac (cmB l s) n N (facB (cmB l s)) ∧ Fct n A (cell b A) n N (cell (cmB l s).cells N) ∧ Rwf n (cell b A) N A (cell k A) ∧
   (N = n → Ix (Spn N A (cell k A)) (Spn n A (cell b A)) (pdN (dF (facB (cmB l s))) N)) := by
 obtain ⟨q1, q2, q3⟩ := qu_yes hq
 have hq' := hq
 unfold quOk at hq'
 rw [Bool.and_eq_true] at hq'
 obtain ⟨hcm, hfo⟩ := hq'
 obtain ⟨C, N1, n1, hL, hS, c1, c2, c3⟩ := cm_parts hcm
 have e1 := hL.rows; have e2 := hL.cols; have e3 := hS.rows
 have el : l.cells = k := by rw [hl]
 have es : s.cells = b := by rw [hs]
 have er : l.rows = (N : Int) := by rw [hl]
 have ec : l.cols = (A : Int) := by rw [hl]
 have esr : s.rows = (n : Int) := by rw [hs]
 obtain rfl : N1 = N := by omega
 obtain rfl : C = A := by omega
 obtain rfl : n1 = n := by omega
 rw [el, es] at c3
 obtain ⟨Rx, Cx, hF⟩ := fac_of hfo
 obtain rfl : Rx = n1 := by have := hF.rows; omega
 obtain rfl : Cx = N1 := by have := hF.cols; omega
 have hix : Ind Rx Cx (cell (cmB l s).cells Cx) := by
  intro a ha
  refine hb a fun j hj => ?_
  rw [sm_congr (g := fun i => a i * mm Cx (cell (cmB l s).cells Cx) (cell k C) i j) fun i hi => by rw [c3 i j hi hj]]
  show mm Rx (fun _ => a) (mm Cx (cell (cmB l s).cells Cx) (cell k C)) 0 j = 0
  rw [← mm_assoc]
  exact sm_zero fun p hp => by
   have : mm Rx (fun _ => a) (cell (cmB l s).cells Cx) 0 p = 0 := ha p hp
   rw [this, Int.zero_mul]
 have hlen := ind_fac hix hF (Fct.refl _ _ _) (Fct.refl _ _ _)
 have hle := hF.le
 have hrw : Rwf Rx (cell b C) Cx C (cell k C) := ⟨cell (cmB l s).cells Cx, c3⟩
 refine ⟨hfo, hlen, by omega, by rw [q2, er, ← hlen], q3, hF, ?_, hrw, fun hNn => ?_⟩
 ·exact Fct.col' (F := cell k C) fun i j hi hj => c3 i j hi hj
 ·subst hNn
  obtain ⟨R, hR, hI⟩ := ix_fac hfo c2 hlen.symm
  obtain rfl : R = Cx := by omega
  exact Ix.coord hk c3 hI
def SdR (m : Mat) : Prop := m.cols ≤ 3 ∧ ∀ i : Nat, m.cols ≤ (i : Int) → -40 ≤ m.cells.getD i 0 ∧ m.cells.getD i 0 ≤ 40
theorem sd_two {m : Mat} (h : SdR m) (hf : facOk m = true) (hc : m.cols = ((facB m).length : Nat)) (h3 : (facB m).length = 3) : dS (facB m) 0 * dS (facB m) 1 ≤ 3200 := by
 obtain ⟨R, C, hF⟩ := fac_of hf
 refine two_small hf hF.rows (by rw [hc, h3]; rfl) h3 fun i j hi hiR hj => ?_
 have := h.2 (i * 3 + j) (by rw [hc, h3]; omega)
 exact this
theorem dvd_two {m m' : Mat} {R C R' C' : Nat} {L L' : List Int} (h : Fac m R C L) (h' : Fac m' R' C' L') (hf : Fct R' C' (cell m'.cells C') R C (cell m.cells C)) (h3 : L.length = 3) (h3' : L'.length = 3) (hs : dS L' 0 * dS L' 1 ≤ 3200) : dS L 0 * dS L 1 ≤ 3200 := by
 have hle := h'.le
 have d0 := Int.le_of_dvd (h'.pos 0 (by omega)) (fac_dvd h h' hf 0)
 have d1 := Int.le_of_dvd (h'.pos 1 (by omega)) (fac_dvd h h' hf 1)
 have p0 := h.pos 0 (by omega)
 have p1 := h.pos 1 (by omega)
 exact Int.le_trans (Int.mul_le_mul d0 d1 (by omega) (by omega)) hs
def SmallL (o : List Int) : Prop := (∀ x ∈ o, 1 ≤ x ∧ x ≤ 400000000) ∧ ∀ k, k < o.length → prd (o.take k) < 1073741824
theorem small_of {L : List Int} (hn : ∀ x ∈ L, x ≤ 400000000) (h3 : L.length ≤ 3) (h2 : L.length = 3 → dS L 0 * dS L 1 ≤ 3200) : SmallL (gt1 L) :=
 ⟨fun x hx => ⟨by have := (gt1_mem hx).2; omega, hn x (gt1_mem hx).1⟩, prd_small hn h3 fun h _ => h2 h⟩
theorem fac_num {m : Mat} (h : facOk m = true) : ∀ x ∈ facB m, x ≤ 400000000 := fun x hx => by
 cases hB : isMatB m with
 | false => rw [(fac_none (facR_no hB)).1] at h; cases h
 | true =>
  obtain ⟨R, C, hmr, hmc, hR, hC, hl, hnum⟩ := isMatB_shape hB
  obtain ⟨mr, mc, cells⟩ := m
  simp only at hmr hmc hl hnum
  subst hmr
  subst hmc
  cases hs : smith cells R C with
  | none =>
   have := facR_mat hB
   rw [hs] at this
   rw [(fac_none this).1] at h; cases h
  | some s =>
   have h1 := facR_mat hB
   rw [hs] at h1
   have h2 : facB { rows := (R : Int), cols := (C : Int), cells := cells } = facP s.1 C (min R C) := (fac_some h1).2
   rw [h2] at hx
   exact (facP_rng (smith_spec hl hnum hs).na x hx).2
structure MapF (r s f : Mat) : Prop where
 n1 : mqN (kerIs r s f) (tzB s f) (basB r) + mqN (imgIs r s f) (imB s f) (basB s) = invN r
 n2 : mqN (imgIs r s f) (imB s f) (basB s) + cokN r s f = invN s
 lo : ∀ x ∈ [mqN (kerIs r s f) (tzB s f) (basB r), mqN (imgIs r s f) (imB s f) (basB s), cokN r s f, invN r, invN s], 0 ≤ x ∧ x ≤ 48
 p1 : invN r = 0 → SmallL (mqB (kerIs r s f) (tzB s f) (basB r)) ∧ SmallL (mqB (imgIs r s f) (imB s f) (basB s)) ∧ SmallL (gt1 (facB r)) ∧ prd (mqB (kerIs r s f) (tzB s f) (basB r)) * prd (mqB (imgIs r s f) (imB s f) (basB s)) = prd (gt1 (facB r))
 p2 : invN s = 0 → SmallL (mqB (imgIs r s f) (imB s f) (basB s)) ∧ SmallL (cokB r s f) ∧ SmallL (gt1 (facB s)) ∧ prd (mqB (imgIs r s f) (imB s f) (basB s)) * prd (cokB r s f) = prd (gt1 (facB s))
theorem pd_len {L : List Int} {n : Nat} (hp : ∀ i, i < L.length → 0 < dS L i) (h : L.length = n) : ((pdN (dF L) n : Nat) : Int) = prd (gt1 L) := by
 subst h
 have := pdN_gt1 hp L.length (Nat.le_refl _)
 rw [List.take_length] at this
 exact this.symm
theorem maps_fact {r s f : Mat} (sr : SdR r) (ss : SdR s) (hk : mqOk (kerIs r s f) (tzB s f) (basB r) = true) (hi : mqOk (imgIs r s f) (imB s f) (basB s) = true) (hc : cokOk r s f = true) (hr : facOk r = true) (hs : facOk s = true) : MapF r s f := by
 unfold mqOk at hk hi
 rw [Bool.and_eq_true] at hk hi
 obtain ⟨hk1, hkq⟩ := hk
 obtain ⟨hi1, hiq⟩ := hi
 have hk1' := hk1
 have hi1' := hi1
 unfold kerIs at hk1
 unfold imgIs at hi1
 rw [Bool.and_eq_true, Bool.and_eq_true] at hk1 hi1
 obtain ⟨hmap, hto, hro⟩ := hk1
 obtain ⟨-, hio, hso⟩ := hi1
 unfold cokOk at hc
 rw [Bool.and_eq_true] at hc
 obtain ⟨hc1, hcf⟩ := hc
 obtain ⟨ca, cb, cc⟩ := cok_yes hc1
 have hc1' := hc1
 unfold cokIs at hc1
 rw [Bool.and_eq_true] at hc1
 obtain ⟨-, hst⟩ := hc1
 obtain ⟨ka, kb, kc⟩ := mq_yes (a := tzB s f) (b := basB r) hk1'
 obtain ⟨ia, ib, ic⟩ := mq_yes (a := imB s f) (b := basB s) hi1'
 unfold mapB at hmap
 rw [Bool.and_eq_true, Bool.and_eq_true, decide_eq_true_eq] at hmap
 obtain ⟨hmul, hfs, -⟩ := hmap
 obtain ⟨R, A, C, r1, r2, f1, f2, -, -, -⟩ := mul_parts hmul
 have s2 : s.cols = (C : Int) := by omega
 obtain ⟨A', Nr, br, hbr⟩ := bas_of hro
 obtain rfl : A' = A := by have := hbr.cols; omega
 obtain ⟨C', Ns, bs, hbs⟩ := bas_of hso
 obtain rfl : C' = C := by have := hbs.cols; omega
 obtain ⟨NK, t, k, bb, eK, hIk, hKer, hbb, hbbo, hNt, hso2⟩ := tz_full hto f1 f2 hbs
 rw [(im_yes hst).1] at hio
 have hsc : (stackB f s).cols = (C' : Int) := by rw [(stack_yes hst).2]; exact f2
 obtain ⟨C2, NI, bi, hbi⟩ := bas_of hio
 obtain rfl : C2 = C' := by have := hbi.cols; omega
 have eI : imB s f = { rows := (NI : Int), cols := (C2 : Int), cells := bi } := by rw [(im_yes hst).2]; exact hbi.eq
 have hIr := bas_ind hbr hro
 have hIs := bas_ind hbs hso
 have hIi := bas_ind hbi hio
 have hIbb := bas_ind hbb hbbo
 obtain ⟨fa, la, na, qa, ga, FA, cA, rwA, ixA⟩ := quo_fac eK hbr.eq hkq hIk hIr
 obtain ⟨fb, lb, nb, qb, gb, FB, cB, rwB, ixB⟩ := quo_fac eI hbs.eq hiq hIi hIs
 have lo := bas_fac hbr hro hr
 have lp := bas_fac hbs hso hs
 have lc := bas_fac hbi hio hcf
 obtain ⟨R0, A0, FR⟩ := fac_of hr
 obtain rfl : A0 = A' := by have := FR.cols; omega
 obtain ⟨Rs, C0, FS⟩ := fac_of hs
 obtain rfl : C0 = C2 := by have := FS.cols; omega
 obtain ⟨Rc, C1, FC⟩ := fac_of hcf
 obtain rfl : C1 = C0 := by have := FC.cols; omega
 obtain ⟨Rr', hrr, hrp⟩ := bas_spn hbr hro
 obtain rfl : Rr' = R0 := by have := FR.rows; omega
 obtain ⟨Rs', hrs, hsp⟩ := bas_spn hbs hso
 obtain rfl : Rs' = Rs := by have := FS.rows; omega
 obtain ⟨Ri, hri, hip⟩ := bas_spn hbi hio
 obtain rfl : Ri = A0 + Rs' := by
  have : (stackB f s).rows = f.rows + s.rows := by rw [(stack_yes hst).2]
  omega
 obtain rfl : Rc = A0 + Rs' := by have := FC.rows; omega
 have hleR := FR.le
 have hleS := FS.le
 have hleC := FC.le
 have hA24 := hbr.hC
 have hN24 := hbs.hN
 have hI24 := hbi.hN
 have SI : ∀ u : Vc, Spn NI C1 (cell bi C1) u ↔ ∃ x : Nat → Int, Spn Ns C1 (cell bs C1) fun j => u j - sm A0 fun i => x i * cell f.cells C1 i j := fun u => by
  rw [← hip, stack_spn hst f1 hrs f2]
  constructor
  ·rintro ⟨x, y, h⟩
   exact ⟨x, (hsp _).1 ⟨y, fun j hj => by show u j - _ = _; rw [h j hj]; omega⟩⟩
  ·rintro ⟨x, h⟩
   obtain ⟨y, hy⟩ := (hsp _).2 h
   exact ⟨x, y, fun j hj => by have := hy j hj; simp only at this; omega⟩
 have SB : ∀ u : Vc, Spn t C1 (cell bb C1) u ↔ ∃ x : Nat → Int, Spn Ns C1 (cell bs C1) fun j => u j - sm A0 fun i => x i * cell f.cells C1 i j := fun u => by
  obtain ⟨Rb, hrb, hbp⟩ := bas_spn hbb hbbo
  obtain rfl : Rb = A0 + Ns := by
   have : (stackB f (basB s)).rows = f.rows + (basB s).rows := by rw [(stack_yes hso2).2]
   rw [hbs.eq] at this
   simp only at this
   rw [← hbs.eq] at this
   omega
  have e1 : (basB s).cells = bs := by rw [hbs.eq]
  rw [← hbp, stack_spn hso2 f1 (by rw [hbs.eq] : (basB s).rows = (Ns : Int)) f2, e1]
  constructor
  ·rintro ⟨x, y, h⟩
   exact ⟨x, y, fun j hj => by show u j - _ = _; rw [h j hj]; omega⟩
  ·rintro ⟨x, y, hy⟩
   exact ⟨x, y, fun j hj => by have := hy j hj; simp only at this; omega⟩
 obtain rfl : t = NI := Nat.le_antisymm
  (ind_fle hIbb (Rwf.of_rows fun i hi => (SI _).2 ((SB _).1 (Spn.row hi))).fct)
  (ind_fle hIi (Rwf.of_rows fun i hi => (SB _).2 ((SI _).1 (Spn.row hi))).fct)
 have v1 : invN r = (A0 : Int) - Nr := by unfold invN; rw [if_pos hr, ← lo, r2]
 have v2 : invN s = (C1 : Int) - Ns := by unfold invN; rw [if_pos hs, ← lp, s2]
 have v3 : invN (stackB f s) = (C1 : Int) - t := by unfold invN; rw [if_pos hcf, ← lc, hsc]
 have cR : Fct Rr' A0 (cell r.cells A0) Nr A0 (cell br A0) := (Rwf.of_rows fun i hi => (hrp _).1 (Spn.row hi)).fct
 have cS : Fct Rs' C1 (cell s.cells C1) Ns C1 (cell bs C1) := (Rwf.of_rows fun i hi => (hsp _).1 (Spn.row hi)).fct
 have cC : Fct Rs' C1 (cell s.cells C1) (A0 + Rs') C1 (cell (stackB f s).cells C1) := (Rwf.of_rows fun i hi => (hip _).2 ((SI _).2 ⟨fun _ => 0, ((hsp _).1 (Spn.row hi)).congr fun j hj => by
  show cell s.cells C1 i j - sm A0 (fun i => 0 * cell f.cells C1 i j) = _
  rw [sm_zero fun q _ => Int.zero_mul _, Int.sub_zero]⟩)).fct
 have h3r := sr.1
 have h3s := ss.1
 have smB : Ns = t → SmallL (gt1 (facB (cmB (imB s f) (basB s)))) := fun e => small_of (fac_num fb) (by omega) fun h3 => dvd_two FB FS (cS.trans cB) h3 (by omega) (sd_two ss hs (by omega) (by omega))
 have pB : Ns = t → ((pdN (dF (facB (cmB (imB s f) (basB s)))) t : Nat) : Int) = prd (gt1 (facB (cmB (imB s f) (basB s)))) := fun e => pd_len FB.pos (by omega)
 have Tr : Lt fun _ : Vc => True := ⟨trivial, fun _ _ _ _ => trivial, fun _ _ => trivial⟩
 refine ⟨?_, ?_, ?_, fun h0 => ?_, fun h0 => ?_⟩
 ·rw [kb, ib, qa, qb, v1]; omega
 ·rw [ib, cb, qb, v2, v3]; omega
 ·rw [kb, ib, cb, qa, qb, v1, v2, v3]
  intro x hx
  simp only [List.mem_cons, List.not_mem_nil, or_false] at hx
  rcases hx with rfl | rfl | rfl | rfl | rfl <;> omega
 ·rw [kc, ic, ga, gb]
  have e1 : A0 = Nr := by omega
  have e2 : NK = Nr := by omega
  have e3 : t = Ns := by omega
  have smO : SmallL (gt1 (facB r)) := small_of (fac_num hr) (by omega) fun h3 => sd_two sr hr (by omega) h3
  refine ⟨small_of (fac_num fa) (by omega) fun h3 => dvd_two FA FR (cR.trans cA) h3 (by omega) (sd_two sr hr (by omega) (by omega)), smB e3.symm, smO, ?_⟩
  have I2 := ixB e3
  have I1 := ixA e2
  have I3 : Ix (fun _ => True) (Spn NK A0 (cell k A0)) (pdN (dF (facB (cmB (imB s f) (basB s)))) t) := by
   refine Ix.via (K := Spn t C1 (cell bi C1)) (L := Spn Ns C1 (cell bs C1)) (fun v j => sm A0 fun q => v q * cell f.cells C1 q j) Spn.lt (fun v _ => (SI _).2 ⟨v, Spn.zero fun j _ => Int.sub_self _⟩) (fun v w _ _ => ?_) (fun u hu => ?_) I2
   ·rw [hKer]
    have : (fun j => sm A0 fun q => (v q - w q) * cell f.cells C1 q j) = fun j => (sm A0 fun q => v q * cell f.cells C1 q j) - sm A0 fun q => w q * cell f.cells C1 q j := by
     funext j
     rw [Int.sub_eq_add_neg, ← sm_neg, ← sm_add]
     exact sm_congr fun q _ => by rw [Int.sub_mul, Int.sub_eq_add_neg]
    rw [this]
   ·obtain ⟨x, hx⟩ := (SI u).1 hu
    exact ⟨x, trivial, hx⟩
  have I4 := Ix.tower (J := fun _ => True) Spn.lt (fun v hv => Spn.of_rwf hv rwA) (fun _ _ => trivial) Tr I3 I1
  obtain ⟨R5, hR5, I5⟩ := ix_fac hr r2 (by omega)
  obtain rfl : R5 = Rr' := by omega
  have hsame := Ix.same Spn.lt I4 (I5.congr hrp)
  rw [← pd_len FA.pos (n := NK) (by omega), ← pB e3.symm, ← pd_len FR.pos (n := A0) (by omega), ← hsame, Int.natCast_mul, Int.mul_comm]
 ·rw [ic, gb, cc]
  have e1 : C1 = Ns := by omega
  have e3 : t = Ns := by omega
  refine ⟨smB e3.symm, small_of (fac_num hcf) (by omega) fun h3 => dvd_two FC FS cC h3 (by omega) (sd_two ss hs (by omega) (by omega)), small_of (fac_num hs) (by omega) fun h3 => sd_two ss hs (by omega) h3, ?_⟩
  have I2 := ixB e3
  obtain ⟨R6, hR6, I6⟩ := ix_fac hcf hsc (by omega)
  obtain rfl : R6 = A0 + Rs' := by omega
  obtain ⟨R7, hR7, I7⟩ := ix_fac hs s2 (by omega)
  obtain rfl : R7 = Rs' := by omega
  have I4 := Ix.tower (J := fun _ => True) Spn.lt (fun v hv => Spn.of_rwf hv rwB) (fun _ _ => trivial) Tr (I6.congr hip) I2
  have hsame := Ix.same Spn.lt I4 (I7.congr hsp)
  rw [← pB e3.symm, ← pd_len FC.pos (n := C1) (by omega), ← pd_len FS.pos (n := C1) (by omega), ← hsame, Int.natCast_mul, Int.mul_comm]
theorem small_bd {o : List Int} (h : SmallL o) : 1 ≤ prd o ∧ prd o ≤ 429496729600000000 := by
 obtain ⟨h1, h2⟩ := h
 have hge : ∀ x ∈ o, 1 ≤ x := fun x hx => (h1 x hx).1
 have h3 := prd_take hge o.length
 rw [List.take_length] at h3
 refine ⟨h3.1, ?_⟩
 rcases Nat.eq_zero_or_pos o.length with e | e
 ·rw [List.length_eq_zero_iff.1 e]; simp [prd]
 ·have hx : o[o.length - 1]? = some o[o.length - 1] := List.getElem?_eq_getElem (by omega)
  have h4 := h2 (o.length - 1) (by omega)
  have h5 := (prd_take hge (o.length - 1)).1
  have h6 := (h1 _ (List.mem_of_getElem? hx)).2
  have h7 := (h1 _ (List.mem_of_getElem? hx)).1
  have h8 := take_succ hx
  rw [show o.length - 1 + 1 = o.length by omega, List.take_length] at h8
  have h9 : prd o = prd (o.take (o.length - 1)) * o[o.length - 1] := by
   conv => lhs; rw [h8]
   exact prd_snoc _ _
  rw [h9]
  exact Int.le_trans (Int.mul_le_mul (show prd (o.take (o.length - 1)) ≤ 1073741824 by omega) h6 (by omega) (by omega)) (by omega)
structure MapG (M1 M2 M3 N1 N2 : Int) (LA LB LC LO LP : List Int) : Prop where
 n1 : M1 + M2 = N1
 n2 : M2 + M3 = N2
 b1 : 0 ≤ M1 ∧ M1 ≤ 48
 b2 : 0 ≤ M2 ∧ M2 ≤ 48
 b3 : 0 ≤ M3 ∧ M3 ≤ 48
 p1 : N1 = 0 → SmallL LA ∧ SmallL LB ∧ SmallL LO ∧ prd LA * prd LB = prd LO
 p2 : N2 = 0 → SmallL LB ∧ SmallL LC ∧ SmallL LP ∧ prd LB * prd LC = prd LP
theorem maps_all {r s f : Mat} (sr : SdR r) (ss : SdR s) {b1 b2 b3 b4 b5 : Bool} {M1 M2 M3 N1 N2 : Int} {LA LB LC LO LP : List Int}
  (hb1 : mqOk (kerIs r s f) (tzB s f) (basB r) = b1) (hb2 : mqOk (imgIs r s f) (imB s f) (basB s) = b2) (hb3 : cokOk r s f = b3) (hb4 : facOk r = b4) (hb5 : facOk s = b5)
  (hM1 : mqN (kerIs r s f) (tzB s f) (basB r) = M1) (hM2 : mqN (imgIs r s f) (imB s f) (basB s) = M2) (hM3 : cokN r s f = M3) (hN1 : invN r = N1) (hN2 : invN s = N2)
  (hA : mqB (kerIs r s f) (tzB s f) (basB r) = LA) (hB : mqB (imgIs r s f) (imB s f) (basB s) = LB) (hC : cokB r s f = LC) (hO : gt1 (facB r) = LO) (hP : gt1 (facB s) = LP)
  (t1 : b1 = true) (t2 : b2 = true) (t3 : b3 = true) (t4 : b4 = true) (t5 : b5 = true) : MapG M1 M2 M3 N1 N2 LA LB LC LO LP := by
 subst hb1 hb2 hb3 hb4 hb5 hM1 hM2 hM3 hN1 hN2 hA hB hC hO hP
 obtain ⟨h1, h2, h3, h4, h5⟩ := maps_fact sr ss t1 t2 t3 t4 t5
 exact ⟨h1, h2, h3 _ (by simp), h3 _ (by simp), h3 _ (by simp), h4, h5⟩
theorem maps_no {r s f : Mat} (h : mapB r s f = false) : mqOk (kerIs r s f) (tzB s f) (basB r) = false ∧ mqOk (imgIs r s f) (imB s f) (basB s) = false ∧ cokOk r s f = false := by
 refine ⟨(mq_no ?_).1, (mq_no ?_).1, (cok_no ?_).1⟩
 ·unfold kerIs; rw [h]; rfl
 ·unfold imgIs; rw [h]; rfl
 ·unfold cokIs; rw [h]; rfl
end Go.Proofs.YtoiblknchcoecaaGreat
