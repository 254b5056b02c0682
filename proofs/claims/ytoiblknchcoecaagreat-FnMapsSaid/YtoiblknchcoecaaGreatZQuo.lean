/-
  Coordinates of a sublattice and quotients: plain.
-/
import Derived.Test.YtoiblknchcoecaaGreatZLat
import Derived.Test.YtoiblknchcoecaaGreatZFacI
import Derived.Test.YtoiblknchcoecaaGreatZStack
import Derived.Test.YtoiblknchcoecaaGreatZSmithT
import Derived.Test.YtoiblknchcoecaaGreatZIsMat
set_option maxHeartbeats 8000000
set_option maxRecDepth 100000
namespace Go.Proofs.YtoiblknchcoecaaGreat
open Go.RowKit
theorem nrmOk_q {b v : List Int} {C i : Nat} {q : Int} {R : Nat} (hl : b.length = R * C) (hi : i < R) (hf : ∃ k, k < C ∧ cell b C i k ≠ 0) (h : nrmOk b C i v q = true) : isNumB q = true := by
 obtain ⟨h1, h2⟩ := fz_row hl hi hf
 have h3 := (nrmOk_iff.1 h (fz (rowL b C i)) h1).1
 rw [isNumB_iff] at h3 ⊢
 generalize cell b C i (fz (rowL b C i)) = y at h2 h3
 by_cases hy : 0 < y
 ·by_cases hq : 0 ≤ q
  ·have : 1 * q ≤ y * q := Int.mul_le_mul_of_nonneg_right (by omega) hq
   omega
  ·have : 1 * (-q) ≤ y * (-q) := Int.mul_le_mul_of_nonneg_right (by omega) (by omega)
   simp only [Int.mul_neg] at this
   omega
 ·by_cases hq : 0 ≤ q
  ·have : 1 * q ≤ (-y) * q := Int.mul_le_mul_of_nonneg_right (by omega) hq
   rw [Int.neg_mul] at this
   omega
  ·have : 1 * (-q) ≤ (-y) * (-q) := Int.mul_le_mul_of_nonneg_right (by omega) (by omega)
   rw [Int.neg_mul_neg] at this
   omega
theorem coN_spec {b : List Int} {C R : Nat} (hl : b.length = R * C) (hf : ∀ i, i < R → ∃ k, k < C ∧ cell b C i k ≠ 0) : ∀ {n i : Nat} {x out y : List Int}, i + n = R → NumL out → coN b C n i x out = some y → NumL y ∧ y.length = out.length + n
 | 0, _, x, out, y, _, ho, h => by
  simp only [coN] at h
  split at h
  ·obtain rfl := Option.some.inj h
   exact ⟨ho, rfl⟩
  ·cases h
 | n + 1, i, x, out, y, hi, ho, h => by
  by_cases h0 : coM b C i x = 0
  ·cases hk : nrmOk b C i x (coQ b C i x) with
   | false => rw [coN_no h0 hk] at h; cases h
   | true =>
    rw [coN_yes h0 hk] at h
    have hq := nrmOk_q hl (show i < R by omega) (hf i (by omega)) hk
    have := coN_spec hl hf (by omega) (fun z hz => by
     rcases List.mem_append.1 hz with hz | hz
     ·exact ho z hz
     ·rw [List.mem_singleton.1 hz]; exact isNumB_iff.1 hq) h
    refine ⟨this.1, ?_⟩
    rw [this.2, List.length_append]; simp; omega
  ·rw [coN_mod h0] at h; cases h
def cmIs (l s : Mat) : Bool := latB l && (latB s && decide (l.cols = s.cols))
def cmAll (l s : Mat) : Bool := (List.range s.rows.toNat).all fun i => coOk l (rowL s.cells s.cols.toNat i)
def cmOk (l s : Mat) : Bool := cmIs l s && cmAll l s
def cmC (l s : Mat) (n : Nat) : List Int := ((List.range n).map fun i => coL l (rowL s.cells s.cols.toNat i)).flatten
def cmB (l s : Mat) : Mat := if cmOk l s = true then { rows := s.rows, cols := l.rows, cells := cmC l s s.rows.toNat } else { rows := 0, cols := 0, cells := [] }
theorem cm_no {l s : Mat} (h : cmOk l s = false) : cmOk l s = false ∧ cmB l s = { rows := 0, cols := 0, cells := [] } := by
 unfold cmB; rw [h]; exact ⟨rfl, rfl⟩
theorem cm_is {l s : Mat} (h : cmIs l s = false) : cmOk l s = false := by unfold cmOk; rw [h]; rfl
theorem cmIs_l {l s : Mat} (h : latB l = false) : cmIs l s = false := by unfold cmIs; rw [h]; rfl
theorem cmIs_s {l s : Mat} (h : latB s = false) : cmIs l s = false := by unfold cmIs; rw [h]; simp
theorem cmIs_c {l s : Mat} (h : l.cols ≠ s.cols) : cmIs l s = false := by unfold cmIs; rw [decide_eq_false h]; simp
theorem cmIs_yes {l s : Mat} (h1 : latB l = true) (h2 : latB s = true) (h3 : l.cols = s.cols) : cmIs l s = true := by unfold cmIs; rw [h1, h2, decide_eq_true h3]; rfl
theorem cm_row {l s : Mat} {C N i : Nat} (hS : Lat s C N) (hi : i < N) (h : coOk l (rowL s.cells C i) = false) : cmOk l s = false := by
 unfold cmOk cmAll
 rw [hS.rows, hS.cols]
 rw [all_no (i := i) (by simpa using hi) (by simpa using h)]
 simp
theorem cm_yes {l s : Mat} {C N : Nat} (hS : Lat s C N) (h : cmIs l s = true) (ha : ∀ i, i < N → coOk l (rowL s.cells C i) = true) : cmOk l s = true ∧ cmB l s = { rows := (N : Int), cols := l.rows, cells := cmC l s N } := by
 have h1 : cmOk l s = true := by
  unfold cmOk cmAll
  rw [h, Bool.true_and, hS.rows, hS.cols]
  exact all_yes fun i hi => ha i (by simpa using hi)
 refine ⟨h1, ?_⟩
 unfold cmB
 rw [if_pos h1, hS.rows]; rfl
theorem cmC_succ {l s : Mat} {C N : Nat} (hS : Lat s C N) (n : Nat) : cmC l s (n + 1) = cmC l s n ++ coL l (rowL s.cells C n) := by
 unfold cmC
 rw [hS.cols, List.range_succ, List.map_append, List.flatten_append]
 simp
theorem cmC_zero (l s : Mat) : cmC l s 0 = [] := rfl
theorem coL_spec {l : Mat} {C N : Nat} (hL : Lat l C N) {v : List Int} (h : coOk l v = true) : NumL (coL l v) ∧ (coL l v).length = N := by
 cases h1 : coR l v with
 | none => rw [(co_none h1).1] at h; cases h
 | some x =>
  rw [(co_some h1).2]
  cases hin : coIn l v with
  | false => rw [coR_no hin] at h1; cases h1
  | true =>
   rw [coR_yes hL hin] at h1
   have := coN_spec hL.len hL.full (Nat.zero_add N) (fun x hx => by cases hx) h1
   exact ⟨this.1, by simpa using this.2⟩
theorem cmC_spec {l s : Mat} {C N C' N' : Nat} (hL : Lat l C N) (hS : Lat s C' N') : ∀ {n : Nat}, (∀ i, i < n → coOk l (rowL s.cells C' i) = true) → NumL (cmC l s n) ∧ (cmC l s n).length = n * N
 | 0, _ => ⟨(fun x hx => by cases hx), by simp [cmC_zero]⟩
 | n + 1, h => by
  have ih := cmC_spec (n := n) hL hS fun i hi => h i (by omega)
  have h1 := coL_spec hL (h n (by omega))
  rw [cmC_succ hS]
  refine ⟨fun x hx => (List.mem_append.1 hx).elim (ih.1 x) (h1.1 x), ?_⟩
  rw [List.length_append, ih.2, h1.2, Nat.add_mul, Nat.one_mul]
theorem cmB_mat (l s : Mat) : isMatB (cmB l s) = true := by
 cases h : cmOk l s with
 | false => rw [(cm_no h).2]; rfl
 | true =>
  have h' := h
  unfold cmOk at h'
  rw [Bool.and_eq_true] at h'
  obtain ⟨h1, h2⟩ := h'
  have h1' := h1
  unfold cmIs at h1'
  rw [Bool.and_eq_true, Bool.and_eq_true] at h1'
  obtain ⟨C, N, hL⟩ := lat_of h1'.1
  obtain ⟨C', N', hS⟩ := lat_of h1'.2.1
  have ha : ∀ i, i < N' → coOk l (rowL s.cells C' i) = true := fun i hi => by
   unfold cmAll at h2
   rw [hS.rows, hS.cols] at h2
   have := all_at h2 (show i < ((N' : Nat) : Int).toNat by simpa using hi)
   simpa using this
  have h3 := cmC_spec (n := N') hL hS ha
  rw [(cm_yes hS h1 ha).2, hL.rows]
  exact isMatB_ok hS.hN hL.hN h3.2 h3.1
theorem cmB_bd (l s : Mat) : bdM (cmB l s) ≤ 576 := isMatB_bd (cmB_mat l s)
theorem cm_rows {l s : Mat} (h : cmOk l s = true) : 0 ≤ l.rows ∧ l.rows ≤ 24 := by
 unfold cmOk cmIs at h
 rw [Bool.and_eq_true, Bool.and_eq_true] at h
 obtain ⟨C, N, hL⟩ := lat_of h.1.1
 have := hL.rows
 have := hL.hN
 omega
noncomputable def quOk (l s : Mat) : Bool := cmOk l s && facOk (cmB l s)
noncomputable def quN (l s : Mat) : Int := if quOk l s = true then l.rows - (facB (cmB l s)).length else 0
noncomputable def quB (l s : Mat) : List Int := if quOk l s = true then gt1 (facB (cmB l s)) else []
theorem qu_no {l s : Mat} (h : quOk l s = false) : quOk l s = false ∧ quN l s = 0 ∧ quB l s = [] := by
 unfold quN quB; rw [h]; exact ⟨rfl, rfl, rfl⟩
theorem qu_yes {l s : Mat} (h : quOk l s = true) : quOk l s = true ∧ quN l s = l.rows - (facB (cmB l s)).length ∧ quB l s = gt1 (facB (cmB l s)) := by
 unfold quN quB; rw [h]; exact ⟨rfl, rfl, rfl⟩
theorem quOk_cm {l s : Mat} (h : cmOk l s = false) : quOk l s = false := by unfold quOk; rw [h]; rfl
theorem quOk_fac {l s : Mat} (h : facOk (cmB l s) = false) : quOk l s = false := by unfold quOk; rw [h]; simp
theorem quOk_yes {l s : Mat} (h1 : cmOk l s = true) (h2 : facOk (cmB l s) = true) : quOk l s = true := by unfold quOk; rw [h1, h2]; rfl
end Go.Proofs.YtoiblknchcoecaaGreat

namespace Go.Proofs.YtoiblknchcoecaaGreat
open Go.RowKit
def coList (l : Mat) (sb : List Int) (C n : Nat) : List (List Int) := (List.range n).map fun i => coL l (rowL sb C i)
theorem coList_succ (l : Mat) (sb : List Int) (C n : Nat) : coList l sb C (n + 1) = coList l sb C n ++ [coL l (rowL sb C n)] := by unfold coList; rw [List.range_succ, List.map_append]; rfl
theorem coList_len (l : Mat) (sb : List Int) (C n : Nat) : (coList l sb C n).length = n := by unfold coList; simp
theorem cmC_list (l : Mat) (R : Int) (sb : List Int) (C n : Nat) : cmC l { rows := R, cols := (C : Int), cells := sb } n = (coList l sb C n).flatten := rfl
theorem coList_total {l : Mat} {C' N' : Nat} (hL : Lat l C' N') {sb : List Int} {C : Nat} : ∀ {n : Nat}, (∀ i, i < n → coOk l (rowL sb C i) = true) → total (coList l sb C n) = n * N'
 | 0, _ => by simp [coList]
 | n + 1, h => by
  rw [coList_succ, total_append, coList_total hL (fun i hi => h i (by omega)), total_cons, total_nil, (coL_spec hL (h n (by omega))).2, Nat.add_mul, Nat.one_mul, Nat.add_zero]
theorem RdCells.snocQ {w2 w3 : World} {e : TypeId} {a a3 b : Option Addr} {n c3 m c : Nat} {vs : List Value} {T : List (List Int)} {s : List Int} {cs : List Value} (h : RdCells w2 (fun q => blk a ≠ some q) vs T) (hl : vs.length = T.length) (hs : RdI w2 (fun q => blk a ≠ some q) b m c s)
  (hA : Apped w2 w3 e 1 a a3 n c3 cs) : RdCells w3 (fun q => blk a3 ≠ some q) (vs ++ [.slice b m c]) (T ++ [s]) := by
 have key : ∀ q, q < w2.heap.size → blk a ≠ some q → blk a3 ≠ some q := fun q hq hne e => by
  rcases hA.new with e2 | ⟨g, e2, hg⟩
  ·rw [e2] at e; exact hne e
  ·rw [e2] at e; have := Option.some.inj e; omega
 have h1 := (h.weak (T := fun q => q < w2.heap.size ∧ blk a ≠ some q) fun q hq hb => ⟨hq, hb⟩).keep hA.keep (fun q _ hb => hb.2)
 have h2 := (hs.weak (T := fun q => q < w2.heap.size ∧ blk a ≠ some q) fun q hq hb => ⟨hq, hb⟩).keep hA.keep (fun q _ hb => hb.2)
 exact (h1.weak fun q _ hb => key q hb.1 hb.2).append (RdCells.one1 (h2.weak fun q _ hb => key q hb.1 hb.2)) hl
theorem iCoordMat_c {S T : Nat → Prop} {lv sv : Value} {l s : Mat} {w : World} (hl : VM w S lv l) (hbl : bdM l ≤ 1048576) (hs : VM w T sv s) (hbs : bdM s ≤ 1048576) :
  Calls Tryz.prog 55 #[lv, sv] w fun e w' => ∃ r, e = .returned (.tuple #[r, .bool (cmOk l s)]) ∧ OM w' (New w w') r (cmB l s) ∧ Grow w w' := by
 have hVL := hl; have hVS := hs
 obtain ⟨la, ln, lcp, rfl, hl, il1, il2⟩ := hl
 obtain ⟨sa, sn, scp, rfl, hs, is1, is2⟩ := hs
 obtain ⟨w3, hw3⟩ : ∃ w3, w3 = ((w.alloc (.cells #[.int .i64 l.rows, .int .i64 l.cols, .slice la ln lcp] 26)).alloc (.cells #[.int .i64 s.rows, .int .i64 s.cols, .slice sa sn scp] 26)).alloc (.cells #[.int .i64 0, .int .i64 0, .slice none 0 0] 26) := ⟨_, rfl⟩
 have hG3 : Grow w w3 := by rw [hw3]; exact (((Grow.refl w).alloc _ _).alloc _ _).alloc _ _
 have bL : Blk w3 w.heap.size #[.int .i64 l.rows, .int .i64 l.cols, .slice la ln lcp] 26 := by rw [hw3]; exact ((Blk.new w _ _).alloc _).alloc _
 have bS : Blk w3 (w.heap.size + 1) #[.int .i64 s.rows, .int .i64 s.cols, .slice sa sn scp] 26 := by rw [hw3]; exact (Blk.newAt _ _ _ (by simp)).alloc _
 have bZ : Blk w3 (w.heap.size + 1 + 1) #[.int .i64 0, .int .i64 0, .slice none 0 0] 26 := by rw [hw3]; exact Blk.newAt _ _ _ (by simp)
 have Hw3 := Lib.hid hw3; clear hw3
 have hVL3 := hVL.grow hG3
 have hVS3 := hVS.grow hG3
 cases h1 : latB l with
 | false =>
  have Hz := Lib.hid (cm_no (cm_is (cmIs_l (s := s) h1)))
  have H1 := Lib.hid h1; clear h1
  go_enter Tryz.func55, Tryz.ntmps55
  go_wp2_with fail
  rw [← Hw3.out]
  refine (iIsLattice_c hVL3 (by omega)).mono ?_
  rintro e w4 ⟨rfl, hG4⟩
  rw [H1.out]
  have bRz := bZ.grow hG4
  have hGz := hG3.trans hG4
  obtain ⟨⟨z0, z1, z2⟩, g0, g1, g2⟩ := bRz.three
  have hltz := bRz.lt
  have h1' : w.heap.size ≤ w.heap.size + 1 + 1 := by omega
  go_wp2
  exact ret_cell_tmp T_mat rfl rfl rfl (((bRz.set 0 _).set 1 _).set 2 _) ⟨_, by rw [Hz.out.1]; rfl, by rw [Hz.out.2]; exact OM.zero, ((hGz.setCell h1' _).setCell h1' _).setCell h1' _⟩
 | true =>
  obtain ⟨C, N, hL⟩ := lat_of h1
  have H1 := Lib.hid h1; clear h1
  go_enter Tryz.func55, Tryz.ntmps55
  go_wp2_with fail
  rw [← Hw3.out]
  refine (iIsLattice_c hVL3 (by omega)).mono ?_
  rintro e w4 ⟨rfl, hG4⟩
  rw [H1.out]
  have bL4 := bL.grow hG4
  have bS4 := bS.grow hG4
  have bZ4 := bZ.grow hG4
  have hVL4 := hVL3.grow hG4
  have hVS4 := hVS3.grow hG4
  have hG14 := hG3.trans hG4
  obtain ⟨⟨s0, s1, s2⟩, -⟩ := bS4.three
  have hltS4 := bS4.lt
  clear bL bS bZ
  cases h2 : latB s with
  | false =>
   have Hz := Lib.hid (cm_no (cm_is (cmIs_s (l := l) h2)))
   have H2 := Lib.hid h2; clear h2
   go_wp2_with fail
   refine (iIsLattice_c hVS4 (by omega)).mono ?_
   rintro e w5 ⟨rfl, hG5⟩
   rw [H2.out]
   have bRz := bZ4.grow hG5
   have hGz := hG14.trans hG5
   clear s0 s1 s2
   obtain ⟨⟨z0, z1, z2⟩, g0, g1, g2⟩ := bRz.three
   have hltz := bRz.lt
   have h1' : w.heap.size ≤ w.heap.size + 1 + 1 := by omega
   go_wp2
   exact ret_cell_tmp T_mat rfl rfl rfl (((bRz.set 0 _).set 1 _).set 2 _) ⟨_, by rw [Hz.out.1]; rfl, by rw [Hz.out.2]; exact OM.zero, ((hGz.setCell h1' _).setCell h1' _).setCell h1' _⟩
  | true =>
   obtain ⟨C', N', hS⟩ := lat_of h2
   have H2 := Lib.hid h2; clear h2
   go_wp2_with fail
   refine (iIsLattice_c hVS4 (by omega)).mono ?_
   rintro e w5 ⟨rfl, hG5⟩
   rw [H2.out]
   have bL5 := bL4.grow hG5
   have bS5 := bS4.grow hG5
   have bZ5 := bZ4.grow hG5
   have hG15 := hG14.trans hG5
   clear s0 s1 s2
   obtain ⟨⟨l0, l1, l2⟩, -⟩ := bL5.three
   obtain ⟨⟨s0, s1, s2⟩, -⟩ := bS5.three
   have hltL5 := bL5.lt
   have hltS5 := bS5.lt
   by_cases h3 : l.cols = s.cols
   ·obtain ⟨lr, lc, b⟩ := l
    obtain ⟨sr, sc, sb⟩ := s
    obtain rfl : lr = (N : Int) := hL.rows
    obtain rfl : lc = (C : Int) := hL.cols
    obtain rfl : sr = (N' : Int) := hS.rows
    obtain rfl : sc = (C' : Int) := hS.cols
    obtain rfl : C = C' := by simp only at h3; omega
    have Hcs := Lib.hid (cmIs_yes H1.out H2.out h3)
    have HL := Lib.hid hL; have HS := Lib.hid hS
    have hC24 := hL.hC; have hN24 := hL.hN; have hN24' := hS.hN
    have hsl : sb.length = N' * C := hS.len
    have hsn : NumL sb := hS.num
    have e1 : ((C : Int) == (C : Int)) = true := by simp
    have e2 : ((C : Int) != (C : Int)) = false := by simp
    have hG35 : Grow w3 w5 := hG4.trans hG5
    have rS5 : RdI w5 T sa sn scp sb := ((hs.grow hG15) : RdI w5 T sa sn scp sb)
    have hVL5 := hVL4.grow hG5
    have hVS5 := hVS4.grow hG5
    obtain ⟨w6, hw6⟩ : ∃ w6, w6 = w5.alloc (.cells #[] 24) := ⟨_, rfl⟩
    have hG6 : Grow w5 w6 := by rw [hw6]; exact (Grow.refl w5).alloc _ _
    have o1 : Own w6 24 1 (some ⟨w5.heap.size, 0, none⟩) 0 0 [] := by rw [hw6]; exact Own.freshAt (cs := #[]) (by simp) (by unfold maxLen; omega) rfl
    have bL6 := bL5.grow hG6
    have bS6 := bS5.grow hG6
    have bZ6 := bZ5.grow hG6
    have hltZ5 := bZ5.lt
    have hG16 := hG15.trans hG6
    have Hw6 := Lib.hid hw6
    clear hw6 hL hS h3 il1 il2 is1 is2 hl hs
    go_wp2
    rw [← Hw6.out]
    go_loopw [6, 7] (fun u q wr => Grow w wr ∧ Blk wr w.heap.size #[.int .i64 (N : Int), .int .i64 (C : Int), .slice la ln lcp] 26 ∧ Blk wr (w.heap.size + 1) #[.int .i64 (N' : Int), .int .i64 (C : Int), .slice sa sn scp] 26 ∧ Blk wr (w.heap.size + 1 + 1) #[.int .i64 0, .int .i64 0, .slice none 0 0] 26 ∧ ∃ (k c1 : Nat) (a1 : Option Addr) (vs : List Value), k ≤ N' ∧ q = .int .i64 k ∧ u = .slice a1 k c1 ∧ Own wr 24 1 a1 k c1 vs ∧ (∀ q, blk a1 = some q → w.heap.size + 1 + 1 < q) ∧ RdCells wr (fun q => blk a1 ≠ some q) vs (coList { rows := (N : Int), cols := (C : Int), cells := b } sb C k) ∧ ∀ i, i < k → coOk { rows := (N : Int), cols := (C : Int), cells := b } (rowL sb C i) = true) (fun _ q _ => N' - (intOf q).toNat)
    case atStart => exact ⟨hG16, bL6, bS6, bZ6, 0, 0, _, [], Nat.zero_le _, rfl, rfl, o1, (fun q hq => by simp at hq; omega), RdCells.nilw, fun i h0 => by omega⟩
    case round =>
     clear bL6 bS6 bZ6 o1 l0 l1 l2 s0 s1 s2 bL5 bS5 bZ5 bL4 bS4 bZ4 e1 e2
     obtain ⟨hG, bLr, bSr, bZr, k, c1, a1, vs, hk, rfl, rfl, hO, hlo, hCe, hok⟩ := hrel
     have Hok := Lib.hid hok; clear hok
     obtain ⟨⟨s0, s1, s2⟩, -⟩ := bSr.three
     have hltS := bSr.lt
     have hltL := bLr.lt
     have hltZ := bZr.lt
     by_cases hlt : k < N'
     ·have hrl := rowL_len hsl hlt
      have hbdr : bdI (rowL sb C k) ≤ 1048576 := by unfold bdI; omega
      have hVLr := hVL.grow hG
      have hVSr := hVS.grow hG
      obtain ⟨sa', sn', scp', hee, rSr, -, -⟩ := hVSr
      obtain ⟨rfl, rfl, rfl⟩ : sa = sa' ∧ sn = sn' ∧ scp = scp' := by simpa using hee
      clear hee
      go_wp2
      refine wp_region_segs (S := Grow wr) [([0, 1, 2], some 3), ([], some 4), ([5, 6, 7, 8, 9], none)] P_mixed (by kernel_rfl) (fun _ _ _ _ _ h => h) (Grow.refl _).drew ?_
      show wpQuiet _ _ _ _ [_, _, _] _
      repeat (first | go_big_quiet_skip | (go_big_quiet_want; first | (apply quiet_load3 T_mat; rfl; rfl; exact (fun w' hG => bLr.grow hG); go_big_quiet_on; simp only [Act.put, List.setIfInBounds_toArray, List.set_cons_succ, List.set_cons_zero]) | (apply quiet_load3 T_mat; rfl; rfl; exact (fun w' hG => bSr.grow hG); go_big_quiet_on; simp only [Act.put, List.setIfInBounds_toArray, List.set_cons_succ, List.set_cons_zero]) | (go_big_quiet_op; first | go_big_quiet_on | (refine ⟨_, (fun _ _ => rfl), ?_⟩; go_big_quiet_on))))
      refine wpQuiet_nil ?_
      refine seg_go rfl (fun K hK => ?_)
      go_wp2_with fail
      refine (rowRd_c sa sn scp C N' k sb _ (rSr.grow (Grow.refl _).drew) hsl hlt hN24' hC24).mono ?_
      rintro e w7 ⟨ra, rc, rfl, rRow, hG7⟩
      have hG07 := (Grow.refl wr).drew.trans hG7
      go_wp2_with fail
      refine hK _ _ (hG07) ?_
      clear hK K
      show wpQuiet _ _ _ _ [] _
      try (conv => arg 6; simp only [Act.put, List.setIfInBounds_toArray, List.set_cons_succ, List.set_cons_zero])
      refine wpQuiet_nil ?_
      refine seg_go rfl (fun K hK => ?_)
      go_wp2_with fail
      refine (iCoordinates_c (hVLr.grow hG07) hbl ⟨ra, C, rc, rfl, rRow⟩ hbdr).mono ?_
      rintro e w8 ⟨xv, rfl, hX, hG8⟩
      have hG08 := hG07.trans hG8
      go_wp2_with fail
      refine hK _ _ (hG08) ?_
      clear hK K
      show wpQuiet _ _ _ _ [_, _, _, _, _] _
      try (conv => arg 6; simp only [Act.put, List.setIfInBounds_toArray, List.set_cons_succ, List.set_cons_zero])
      repeat (first | go_big_quiet_skip | (go_big_quiet_want; first | (apply quiet_load3 T_mat; rfl; rfl; exact (fun w' hG => bLr.grow hG); go_big_quiet_on; simp only [Act.put, List.setIfInBounds_toArray, List.set_cons_succ, List.set_cons_zero]) | (apply quiet_load3 T_mat; rfl; rfl; exact (fun w' hG => bSr.grow hG); go_big_quiet_on; simp only [Act.put, List.setIfInBounds_toArray, List.set_cons_succ, List.set_cons_zero]) | (go_big_quiet_op; first | go_big_quiet_on | (refine ⟨_, (fun _ _ => rfl), ?_⟩; go_big_quiet_on))))
      refine wpQuiet_nil ?_
      refine wpSegs_nil ?_
      have hG18 := hG.trans hG08
      have bL8 := bLr.grow hG08
      have bS8 := bSr.grow hG08
      have bZ8 := bZr.grow hG08
      obtain ⟨xa, xn, xc, rfl, oX, hX64, hXlo⟩ := hX
      have hs78 := hG07.size
      have rX : RdI w8 (fun q => blk a1 ≠ some q) xa xn xc (coL { rows := (N : Int), cols := (C : Int), cells := b } (rowL sb C k)) := oX.rdI (fun g hg e => by have := (hXlo g hg).1; have := hO.lt e; omega) hX64
      have hO8 := hO.grow hG08
      have hC8 := hCe.grow hG08
      clear s0 s1 s2 hO hCe rRow
      cases hcok : coOk { rows := (N : Int), cols := (C : Int), cells := b } (rowL sb C k) with
      | false =>
       have Hz := Lib.hid (cm_no (cm_row HS.out hlt hcok))
       clear hcok
       have bRz := bZ8
       have hGz := hG18
       obtain ⟨⟨z0, z1, z2⟩, g0, g1, g2⟩ := bRz.three
       have hltz := bRz.lt
       have h1' : w.heap.size ≤ w.heap.size + 1 + 1 := by omega
       go_wp2
       exact ret_cell_tmp T_mat rfl rfl rfl (((bRz.set 0 _).set 1 _).set 2 _) ⟨_, by rw [Hz.out.1]; rfl, by rw [Hz.out.2]; exact OM.zero, ((hGz.setCell h1' _).setCell h1' _).setCell h1' _⟩
      | true =>
       have Hok' := Lib.hid (show ∀ i, i < k + 1 → coOk { rows := (N : Int), cols := (C : Int), cells := b } (rowL sb C i) = true from fun i h0 => by
        by_cases e : i = k
        ·subst e; exact hcok
        ·exact Hok.out i (by omega))
       have Hsu := Lib.hid (coList_succ { rows := (N : Int), cols := (C : Int), cells := b } sb C k)
       clear hcok
       have hvl : vs.length = (coList { rows := (N : Int), cols := (C : Int), cells := b } sb C k).length := by rw [coList_len]; have := hO8.len; simpa using this
       have hGa := (Grow.refl w8).alloc #[.slice xa xn xc] 24
       have hO9 := hO8.grow hGa
       have hC9 := hC8.grow hGa
       have rX9 := rX.grow hGa
       have hG9 := hG18.trans hGa
       have bL9 := bL8.grow hGa
       have bS9 := bS8.grow hGa
       have bZ9 := bZ8.grow hGa
       have hlt9 := bZ9.lt
       go_wp2_with (first | (at_builtin; refine wpList_app rfl (.tmp 44) (.tmp 46) _ rfl T_intss rfl hO9 rfl (Row.bAt6 (S := fun _ => True) 1 rfl (by unfold maxLen; omega) rfl (fun _ => trivial)) (by simp [Value.oneCell']) (by omega) (by unfold maxLen; omega) ?_; intro a3 c3 w10 hA10))
       have hC10 := hC9.snocQ hvl rX9 hA10
       rw [← Hsu.out] at hC10
       have hO10 := hA10.own
       have hG10 := hA10.grow hG9 (fun q hq => by have := hlo q hq; omega)
       have bL10 := bL9.keep hA10.keep (fun e => by have := hlo _ e; omega)
       have bS10 := bS9.keep hA10.keep (fun e => by have := hlo _ e; omega)
       have bZ10 := bZ9.keep hA10.keep (fun e => by have := hlo _ e; omega)
       have hlo10 : ∀ q, blk a3 = some q → w.heap.size + 1 + 1 < q := fun q hq => by
        rcases hA10.new with e | ⟨q', e, hq'⟩
        ·rw [e] at hq; exact hlo q hq
        ·rw [e] at hq; obtain rfl := Option.some.inj hq; omega
       clear hA10
       go_wp2
       go_roundw
       case rel => exact ⟨hG10, bL10, bS10, bZ10, k + 1, c3, a3, _, by omega, by go_num, rfl, hO10, hlo10, hC10, Hok'.out⟩
       case measure => simp [intOf]; omega
     ·have hkn : k = N' := by omega
      subst hkn
      have Hy := Lib.hid (cm_yes HS.out Hcs.out Hok.out)
      have hcm : isMatB { rows := (k : Int), cols := (N : Int), cells := (coList { rows := (N : Int), cols := (C : Int), cells := b } sb C k).flatten } = true := by
       have := cmB_mat { rows := (N : Int), cols := (C : Int), cells := b } { rows := (k : Int), cols := (C : Int), cells := sb }
       rw [Hy.out.2, cmC_list] at this
       exact this
      have htl : total (coList { rows := (N : Int), cols := (C : Int), cells := b } sb C k) = k * N := coList_total HL.out Hok.out
      have hnumc := (cmC_spec HL.out HS.out (n := k) Hok.out).1
      rw [cmC_list] at hnumc
      have Hcl := Lib.hid (show cmB { rows := (N : Int), cols := (C : Int), cells := b } { rows := (k : Int), cols := (C : Int), cells := sb } = { rows := (k : Int), cols := (N : Int), cells := (coList { rows := (N : Int), cols := (C : Int), cells := b } sb C k).flatten } by rw [Hy.out.2, cmC_list])
      have hRd : RdII wr (fun _ => True) a1 k c1 (coList { rows := (N : Int), cols := (C : Int), cells := b } sb C k) := ⟨⟨vs, hO.row (fun _ _ => trivial), hCe.weak fun _ _ _ => trivial⟩, coList_len _ _ _ _⟩
      have hkC : k * N ≤ 24 * 24 := Nat.mul_le_mul hN24' hN24
      obtain ⟨⟨l0, l1, l2⟩, -⟩ := bLr.three
      have hbdc := isMatB_bd hcm
      generalize coList { rows := (N : Int), cols := (C : Int), cells := b } sb C k = Ls at *
      go_wp2_with fail
      refine (fromRows_c a1 k c1 Ls (N : Int) _ hRd (by omega) (by omega)).mono ?_
      rintro e w4 ⟨a', c', rfl, hO', hlo', hG4'⟩
      rw [htl] at hO'
      have hOM : OM w4 (fun g => wr.heap.size ≤ g) (.agg #[.int .i64 (k : Int), .int .i64 (N : Int), .slice a' (k * N) c']) { rows := (k : Int), cols := (N : Int), cells := Ls.flatten } := ⟨a', _, c', rfl, hO', num_rng hnumc, (fun g hg => hlo' g hg), by unfold I64; simp only; omega, by unfold I64; simp only; omega⟩
      go_wp2_with fail
      refine (checked_c hOM (by omega)).mono ?_
      rintro e w7 ⟨uv, rfl, hU, hG7⟩
      rw [hcm]
      unfold okM at hU
      rw [if_pos hcm] at hU
      obtain ⟨ua, un, uc, rfl, oU, rU, fU, iu1, iu2⟩ := hU
      simp only at oU rU iu1 iu2
      have hG07 := hG4'.trans hG7
      have bZl := bZr.grow hG07
      have hGl := hG.trans hG07
      clear s0 s1 s2 l0 l1 l2 hOM hO'
      obtain ⟨⟨z0, z1, z2⟩, g0, g1, g2⟩ := bZl.three
      have hltl := bZl.lt
      have hKs : Keep (fun q => q ≠ w.heap.size + 1 + 1) w7 (((w7.setCell ⟨w.heap.size + 1 + 1, 0, none⟩ (.int .i64 (k : Int))).setCell ⟨w.heap.size + 1 + 1, 1, none⟩ (.int .i64 (N : Int))).setCell ⟨w.heap.size + 1 + 1, 2, none⟩ (.slice ua un uc)) :=
       (((Keep.refl _ w7).setCell (fun _ e => e rfl) _).setCell (fun _ e => e rfl) _).setCell (fun _ e => e rfl) _
      have hof := oU.keep hKs (fun g hg _ e => by have := fU g hg; omega)
      have hGf := hGl.keep hKs (fun q hq => by omega)
      go_wp2
      exact ret_cell_tmp T_mat rfl rfl rfl (((bZl.set 0 _).set 1 _).set 2 _) ⟨_, by rw [Hy.out.1]; rfl, by rw [Hcl.out]; exact ⟨ua, un, uc, rfl, hof, rU, (fun g hg => ⟨by have := fU g hg; have := hG.size; omega, hof.lt hg⟩), iu1, iu2⟩, hGf⟩
   ·have e1 : (l.cols == s.cols) = false := by simp [h3]
    have e2 : (l.cols != s.cols) = true := by simp [h3]
    have Hz := Lib.hid (cm_no (cm_is (cmIs_c h3)))
    have bRz := bZ5
    have hGz := hG15
    obtain ⟨⟨z0, z1, z2⟩, g0, g1, g2⟩ := bRz.three
    have hltz := bRz.lt
    have h1' : w.heap.size ≤ w.heap.size + 1 + 1 := by omega
    go_wp2
    exact ret_cell_tmp T_mat rfl rfl rfl (((bRz.set 0 _).set 1 _).set 2 _) ⟨_, by rw [Hz.out.1]; rfl, by rw [Hz.out.2]; exact OM.zero, ((hGz.setCell h1' _).setCell h1' _).setCell h1' _⟩
theorem iQuotient_c {S T : Nat → Prop} {lv sv : Value} {l s : Mat} {w : World} (hl : VM w S lv l) (hbl : bdM l ≤ 1048576) (hs : VM w T sv s) (hbs : bdM s ≤ 1048576) :
  Calls Tryz.prog 24 #[lv, sv] w fun e w' => ∃ x, e = .returned (.tuple #[x, .int .i64 (quN l s), .bool (quOk l s)]) ∧ OI w' (New w w') x (quB l s) ∧ Grow w w' := by
 have hVL := hl; have hVS := hs
 obtain ⟨la, ln, lcp, rfl, hl, il1, il2⟩ := hl
 obtain ⟨sa, sn, scp, rfl, hs, is1, is2⟩ := hs
 obtain ⟨w3, hw3⟩ : ∃ w3, w3 = ((w.alloc (.cells #[.int .i64 l.rows, .int .i64 l.cols, .slice la ln lcp] 26)).alloc (.cells #[.int .i64 s.rows, .int .i64 s.cols, .slice sa sn scp] 26)) := ⟨_, rfl⟩
 have hG3 : Grow w w3 := by rw [hw3]; exact ((Grow.refl w).alloc _ _).alloc _ _
 have bL : Blk w3 w.heap.size #[.int .i64 l.rows, .int .i64 l.cols, .slice la ln lcp] 26 := by rw [hw3]; exact (Blk.new w _ _).alloc _
 have Hw3 := Lib.hid hw3; clear hw3
 have Hno := Lib.hid (quOk_cm (l := l) (s := s))
 have Hno2 := Lib.hid (quOk_fac (l := l) (s := s))
 have Hyes := Lib.hid (quOk_yes (l := l) (s := s))
 have Hq0 := Lib.hid (qu_no (l := l) (s := s))
 have Hq1 := Lib.hid (qu_yes (l := l) (s := s))
 have Hrw := Lib.hid (cm_rows (l := l) (s := s))
 have hbc := cmB_bd l s
 go_enter Tryz.func24, Tryz.ntmps24
 go_wp2_with fail
 rw [← Hw3.out]
 refine (iCoordMat_c (hVL.grow hG3) hbl (hVS.grow hG3) hbs).mono ?_
 rintro e w4 ⟨rv, rfl, hR, hG4⟩
 have Hfo := Lib.hid (fun h => fac_ok (m := cmB l s) h)
 have Hfn := Lib.hid (fun h => facB_no (m := cmB l s) h)
 generalize cmB l s = M at *
 obtain ⟨ra, rn, rc, rfl, oR, rR, fR, ir1, ir2⟩ := hR
 have hGa := (Grow.refl w4).alloc #[.int .i64 M.rows, .int .i64 M.cols, .slice ra rn rc] 26
 have bR := Blk.new w4 #[.int .i64 M.rows, .int .i64 M.cols, .slice ra rn rc] 26
 have vR : VM _ (fun _ => True) _ M := ⟨ra, rn, rc, rfl, (oR.rdI (fun _ _ => trivial) rR).grow hGa, ir1, ir2⟩
 have bL4 := (bL.grow hG4).grow hGa
 have hGt := (hG3.trans hG4).trans hGa
 obtain ⟨okc, hokc⟩ : ∃ okc, okc = cmOk l s := ⟨_, rfl⟩
 rw [← hokc]
 have Hokc := Lib.hid hokc; clear hokc oR
 cases okc with
 | false =>
  have Hz := Lib.hid (Hq0.out (Hno.out Hokc.out.symm))
  have hGz := hGt
  clear bR vR
  have hsq := hGz.size
  go_wp2
  go_ret3
  exact ⟨_, by rw [Hz.out.1, Hz.out.2.1]; rfl, by rw [Hz.out.2.2]; exact OI.empty (by simp) ⟨by (try simp at hsq); omega, by simp⟩, hGz.alloc _ _⟩
 | true =>
  obtain ⟨⟨r0, r1, r2⟩, -⟩ := bR.three
  go_wp2_with fail
  refine (iFactors_c vR (by omega)).mono ?_
  rintro e w5 ⟨x, rfl, hO, hG5⟩
  obtain ⟨F, hF⟩ : ∃ F, F = facB M := ⟨_, rfl⟩
  rw [← hF] at hO
  have HF := Lib.hid hF; clear hF
  obtain ⟨okf, hokf⟩ : ∃ okf, okf = facOk M := ⟨_, rfl⟩
  rw [← hokf]
  have Hokf := Lib.hid hokf; clear hokf
  obtain ⟨a1, n1, c1, rfl, hO, hi64, hlo⟩ := hO
  have hlF : F.length = n1 := by have := hO.len; simpa [ints] using this
  have hG15 := hGt.trans hG5
  clear r0 r1 r2
  cases okf with
  | false =>
   have Hz := Lib.hid (Hq0.out (Hno2.out Hokf.out.symm))
   have hGz := hG15
   have hsq := hGz.size
   go_wp2
   go_ret3
   exact ⟨_, by rw [Hz.out.1, Hz.out.2.1]; rfl, by rw [Hz.out.2.2]; exact OI.empty (by simp) ⟨by (try simp at hsq); omega, by simp⟩, hGz.alloc _ _⟩
  | true =>
   have Hy := Lib.hid (Hq1.out (Hyes.out Hokc.out.symm Hokf.out.symm))
   obtain ⟨hc0, hc24, hF24⟩ := Hfo.out Hokf.out.symm
   rw [← HF.out] at hF24
   obtain ⟨hlr0, hlr⟩ := Hrw.out Hokc.out.symm
   have Hn := Lib.hid (show quN l s = l.rows - n1 by rw [Hy.out.2.1, ← HF.out, hlF])
   have hn24 : n1 ≤ 24 := by omega
   have bL5 := bL4.grow hG5
   have r2 := hO.rdI (S := fun _ => True) (fun _ _ => trivial) hi64
   have c0' := bL5.cell 0
   simp only [List.getElem?_toArray, List.getElem?_cons_zero] at c0'
   go_wp2
   refine wp_region_segs (S := Grow w5) [([0, 2, 3, 4, 5, 6], some 1), ([7, 8, 9], none)] P_mixed (by kernel_rfl) (fun _ _ _ _ _ h => h) (Grow.refl _).drew ?_
   show wpQuiet _ _ _ _ [_, _, _, _, _, _] _
   repeat (first | go_big_quiet_skip | (go_big_quiet_want; first | (apply quiet_load CT_int; rfl; rfl; exact (fun w' hG => hG.cell c0'); go_big_quiet_on; simp only [Act.put, List.setIfInBounds_toArray, List.set_cons_succ, List.set_cons_zero]) | (go_big_quiet_op; first | go_big_quiet_on | (refine ⟨_, (fun _ _ => rfl), ?_⟩; go_big_quiet_on))))
   refine wpQuiet_nil ?_
   refine seg_go rfl (fun K hK => ?_)
   go_wp2_with fail
   refine (iGreater_c a1 n1 c1 F _ (r2.grow (Grow.refl _).drew) (by omega)).mono ?_
   rintro e w6 ⟨x, rfl, hx, hG6⟩
   have hG56 : Grow w5 w6 := (Grow.refl w5).drew.trans hG6
   go_wp2_with fail
   refine hK _ _ (hG56) ?_
   clear hK K
   show wpQuiet _ _ _ _ [_, _, _] _
   try (conv => arg 6; simp only [Act.put, List.setIfInBounds_toArray, List.set_cons_succ, List.set_cons_zero])
   repeat (first | go_big_quiet_skip | (go_big_quiet_want; first | (apply quiet_load CT_int; rfl; rfl; exact (fun w' hG => hG.cell c0'); go_big_quiet_on; simp only [Act.put, List.setIfInBounds_toArray, List.set_cons_succ, List.set_cons_zero]) | (go_big_quiet_op; first | go_big_quiet_on | (refine ⟨_, (fun _ _ => rfl), ?_⟩; go_big_quiet_on))))
   refine wpQuiet_nil ?_
   refine wpSegs_nil ?_
   go_wp2
   go_ret3
   obtain ⟨a6, n6, c6, rfl, hO6, hi6, hl6⟩ := hx
   exact ⟨_, by rw [Hn.out, Hy.out.1]; rfl, by rw [Hy.out.2.2, ← HF.out]; exact ⟨a6, n6, c6, rfl, hO6, hi6, fun g hg => ⟨by have := (hl6 g hg).1; have := hG15.size; simp at *; omega, hO6.lt hg⟩⟩, hG15.trans hG56⟩
end Go.Proofs.YtoiblknchcoecaaGreat

namespace Go.Proofs.YtoiblknchcoecaaGreat
open Go.RowKit
end Go.Proofs.YtoiblknchcoecaaGreat
