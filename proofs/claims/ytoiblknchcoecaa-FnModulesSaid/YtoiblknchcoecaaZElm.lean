/-
  The elements of a finite module, plain: the box under the pivots; normal forms; orders.
-/
import Derived.Test.YtoiblknchcoecaaZIdxS
import Derived.Test.YtoiblknchcoecaaZBox
import Derived.Test.YtoiblknchcoecaaZOrd
import Derived.Test.YtoiblknchcoecaaZSmD
import Derived.Test.YtoiblknchcoecaaZHermF
import Derived.Test.YtoiblknchcoecaaZFacI
set_option maxHeartbeats 8000000
set_option maxRecDepth 100000
namespace Go.Proofs.Ytoiblknchcoecaa
def dgB (m : Mat) (i : Nat) : Int := cell (basB m).cells (basB m).cols.toNat i i
def elsOk (m : Mat) : Bool := basOk m && (decide ((basB m).rows = m.cols) && decide (pdN (dgB m) m.cols.toNat ≤ 500))
def elsL (m : Mat) : List (List Int) := if elsOk m = true then boxN (dgB m) m.cols.toNat else []
theorem els_parts {m : Mat} (h : elsOk m = true) : basOk m = true ∧ ∃ C b, Bas m C C b ∧ m.cols = (C : Int) ∧ (∀ i, dgB m i = cell b C i i) ∧ pdN (dgB m) C ≤ 500 ∧ elsL m = boxN (dgB m) C := by
 have h' := h
 unfold elsOk at h
 rw [Bool.and_eq_true, Bool.and_eq_true, decide_eq_true_eq, decide_eq_true_eq] at h
 obtain ⟨h1, h2, h3⟩ := h
 obtain ⟨C, N, b, hb⟩ := bas_of h1
 have e1 := hb.eq
 have hc := hb.cols
 rw [e1] at h2
 obtain rfl : N = C := by simp only at h2; omega
 refine ⟨h1, N, b, hb, hc, fun i => ?_, by rw [hc] at h3; simpa using h3, ?_⟩
 ·unfold dgB; rw [e1]; simp
 ·unfold elsL; rw [if_pos h', hc]; simp
theorem nrm_box {m : Mat} {C : Nat} {b v : List Int} (hb : Bas m C C b) (h : basOk m = true) (hv : v ∈ boxN (fun i => cell b C i i) C) : nrmR m v = some v := by
 obtain ⟨h1, h2⟩ := boxN_mem hv
 have hn : NumL v := fun x hx => by
  obtain ⟨i, hi, rfl⟩ := List.getElem_of_mem hx
  have h3 := h2 i (by omega)
  rw [List.getD_eq_getElem?_getD, List.getElem?_eq_getElem hi, Option.getD_some] at h3
  have h4 : -400000000 ≤ cell b C i i ∧ cell b C i i ≤ 400000000 := hb.num.getD _
  omega
 have hc := hb.cols
 rw [nrmR_yes hb (nrmIn_yes (v := v) h (by rw [h1]; omega) (L_numsB hn))]
 refine nrm_fix (N := C) (by omega) hn h1 fun i' _ hi' => ?_
 unfold nrmQ
 rw [(bas_tri hb h i' hi').2.2]
 exact Int.ediv_eq_zero_of_lt (h2 i' hi').1 (h2 i' hi').2
theorem ecT_cols {m : Mat} (h : ecOk m = true) {C : Nat} (hc : m.cols = (C : Int)) : ecT m ≤ C := by
 obtain ⟨R, C', T, z, p, hE⟩ := ec_parts h
 obtain rfl : C' = C := by have := hE.cols; omega
 rw [hE.eq]
 exact pigeon C' T p (fun i hi => (hE.pv.piv i hi).1) fun i k hi hk e => hE.inj hi hk e
theorem zero_vec {x : List Int} (h : zeroL x = true) (j : Nat) : vecF x j = 0 := by
 unfold vecF zeroL at *
 rw [List.getD_eq_getElem?_getD]
 cases hx : x[j]? with
 | none => rfl
 | some y =>
  have := List.all_eq_true.1 h y (List.mem_of_getElem? hx)
  simpa using this
theorem adL_vec {xs ys : List Int} {C : Nat} (h : xs.length = C) {j : Nat} (hj : j < C) : vecF (adL xs ys) j = vecF xs j + vecF ys j := by
 unfold vecF adL adV
 rw [List.getD_eq_getElem?_getD, List.getElem?_map, List.getElem?_range (by omega)]
 rfl
theorem nrm_span {r : Mat} {C N : Nat} {b v x : List Int} (hb : Bas r C N b) (h : nrmR r v = some x) : Spn N C (cell b C) fun j => vecF v j - vecF x j := by
 obtain ⟨h1, h2, h3, h4, h5, h6⟩ := nrmR_spec h
 rw [nrmR_yes hb h1] at h
 have hvl : v.length = C := by have := hb.cols; omega
 exact nrmN_span (N := N) (by omega) h4 hvl h
theorem ordN_min {r : Mat} {C N : Nat} {b x : List Int} (hb : Bas r C N b) (hx : x.length = C) : ∀ {f n : Nat} {s : List Int}, 1 ≤ n → nrmR r s = some s → s.length = C → (Spn N C (cell b C) fun j => vecF s j - (n : Int) * vecF x j) →
  (∀ m : Nat, 1 ≤ m → m < n → ¬ Spn N C (cell b C) fun j => (m : Int) * vecF x j) → ∀ {k : Int}, ordN r x f n s = (k, true) →
  ∃ q : Nat, k = (q : Int) ∧ 1 ≤ q ∧ (Spn N C (cell b C) fun j => (q : Int) * vecF x j) ∧ ∀ m : Nat, 1 ≤ m → m < q → ¬ Spn N C (cell b C) fun j => (m : Int) * vecF x j
 | 0, n, s, _, _, _, _, _, k, h => by simp [ordN] at h
 | f + 1, n, s, hn, hs, hsl, hsp, hm, k, h => by
  simp only [ordN] at h
  cases hz : zeroL s with
  | true =>
   rw [hz, if_pos rfl] at h
   have hk := (Prod.mk.inj h).1
   refine ⟨n, hk.symm, hn, hsp.comb hsp (-1) 0 fun j hj => ?_, hm⟩
   rw [zero_vec hz j]; omega
  | false =>
   rw [hz, if_neg (by simp)] at h
   cases hB : nrmB r (adL s x) with
   | false => rw [hB, if_neg (by simp)] at h; cases h
   | true =>
    rw [hB, if_pos rfl] at h
    obtain ⟨y, hy⟩ := Option.isSome_iff_exists.1 (show (nrmR r (adL s x)).isSome = true from hB)
    rw [(nrm_some hy).2] at h
    obtain ⟨h1, h2, h3, h4, h5, h6⟩ := nrmR_spec hy
    refine ordN_min hb hx (by omega) (nrm_idem hy) (by rw [h3, adL_len, hsl]) ((nrm_span hb hy).comb hsp (-1) 1 fun j hj => ?_) (fun m hm1 hm2 => ?_) h
    ·rw [adL_vec hsl hj]
     have : ((n + 1 : Nat) : Int) * vecF x j = (n : Int) * vecF x j + vecF x j := by
      rw [Int.natCast_add, Int.add_mul]; omega
     rw [this]; omega
    ·by_cases e : m < n
     ·exact hm m hm1 e
     ·obtain rfl : m = n := by omega
      intro hS
      have h7 : Spn N C (cell b C) (vecF s) := hsp.comb hS 1 1 fun j hj => by omega
      have h8 := vec_zero hsl (nrm_zero hb hs h7)
      rw [hz] at h8; cases h8
theorem ord_dvd {r : Mat} {C : Nat} {b v : List Int} (hb : Bas r C C b) (ho : basOk r = true) (hv : nrmR r v = some v) {e : Int} (hS : Spn C C (cell b C) fun j => e * vecF v j) (h : (ordR r v).2 = true) : ∃ q : Nat, 1 ≤ q ∧ (ordR r v).1 = (q : Int) ∧ (q : Int) ∣ e := by
 obtain ⟨h1, h2, h3, h4, h5, h6⟩ := nrmR_spec hv
 have hvl : v.length = C := by have := hb.cols; omega
 cases hok : ordOk r v with
 | false => rw [ord_bad hok] at h; cases h
 | true =>
  have hok' := hok
  unfold ordOk at hok'
  rw [Bool.and_eq_true, Bool.and_eq_true] at hok'
  obtain ⟨k1, k2, k3⟩ := hok'
  have hr1 := bas_rank k2 hb ho
  have hr2 : ecT (stackB r (rowM v)) ≤ C := ecT_cols k3 (by rw [(stack_yes k1).2]; exact hb.cols)
  have hrun := ord_run (nrm_some hv).1 hok (by omega)
  rw [(nrm_some hv).2] at hrun
  obtain ⟨k, g⟩ : ∃ k, ordN r v 500 1 v = (k, true) := by
   rw [hrun] at h
   exact ⟨_, Prod.ext rfl h⟩
  obtain ⟨q, rfl, q1, q2, q3⟩ := ordN_min hb hvl (Nat.le_refl 1) hv hvl (Spn.zero fun j hj => by omega) (fun m h1 h2 => by omega) g
  refine ⟨q, q1, by rw [hrun, g], ?_⟩
  have h0 := Int.emod_nonneg e (show (q : Int) ≠ 0 by omega)
  have h7 := Int.emod_lt_of_pos e (show (0 : Int) < q by omega)
  have h8 : (e % q) = 0 := by
   refine Classical.byContradiction fun hne => ?_
   refine q3 (e % q).toNat (by omega) (by omega) (hS.comb q2 1 (-(e / q)) fun j hj => ?_)
   rw [Int.toNat_of_nonneg h0]
   have h9 := Int.emod_add_mul_ediv e q
   have h10 : e % q = e - q * (e / q) := by omega
   rw [h10, Int.sub_mul, Int.one_mul, Int.neg_mul, Int.mul_comm (e / q), Int.mul_assoc, Int.mul_assoc, Int.mul_comm (vecF v j), Int.sub_eq_add_neg]
  exact Int.dvd_of_emod_eq_zero h8
end Go.Proofs.Ytoiblknchcoecaa

namespace Go.Proofs.Ytoiblknchcoecaa
open Go.RowKit
theorem els_bas {m : Mat} (h : basOk m = false) : elsOk m = false ∧ elsL m = [] := by
 have : elsOk m = false := by unfold elsOk; rw [h]; rfl
 exact ⟨this, by unfold elsL; rw [this]; rfl⟩
theorem els_ne {m : Mat} {C N : Nat} {b : List Int} (hb : Bas m C N b) (h : N ≠ C) : elsOk m = false ∧ elsL m = [] := by
 have : elsOk m = false := by
  unfold elsOk
  rw [hb.eq, hb.cols, decide_eq_false (show ¬ (N : Int) = (C : Int) by omega)]; simp
 exact ⟨this, by unfold elsL; rw [this]; rfl⟩
theorem els_big {m : Mat} {C : Nat} {b : List Int} (hb : Bas m C C b) (h : ¬ pdN (fun i => cell b C i i) C ≤ 500) : elsOk m = false ∧ elsL m = [] := by
 have e : dgB m = fun i => cell b C i i := by funext i; unfold dgB; rw [hb.eq]; simp
 have : elsOk m = false := by
  unfold elsOk
  rw [hb.cols, e, Int.toNat_natCast, decide_eq_false h]; simp
 exact ⟨this, by unfold elsL; rw [this]; rfl⟩
theorem els_yes {m : Mat} {C : Nat} {b : List Int} (hb : Bas m C C b) (hok : basOk m = true) (h : pdN (fun i => cell b C i i) C ≤ 500) : elsOk m = true ∧ elsL m = boxN (fun i => cell b C i i) C := by
 have e : dgB m = fun i => cell b C i i := by funext i; unfold dgB; rw [hb.eq]; simp
 have : elsOk m = true := by
  unfold elsOk
  rw [hok, hb.eq, hb.cols, e, Int.toNat_natCast, decide_eq_true h]; simp
 exact ⟨this, by unfold elsL; rw [this, if_pos rfl, e, hb.cols, Int.toNat_natCast]⟩
theorem hiL_next (D : Nat → Int) (k : Nat) : hiL D (k + 1) = hiL D k ++ [D k - 1] := by
 unfold hiL; rw [List.range_succ, List.map_append]; rfl
theorem cell_get {b : List Int} {C i j : Nat} (h : i * C + j < b.length) : b[i * C + j]? = some (cell b C i j) := by
 unfold cell
 rw [List.getD_eq_getElem?_getD, List.getElem?_eq_getElem h]; rfl
theorem SepII.nilAt {w0 w : World} {g : Nat} (hg : g = w.heap.size) (h : w0.heap.size ≤ w.heap.size) : SepII (w.alloc (.cells #[] 24)) (New w0 (w.alloc (.cells #[] 24))) (some ⟨g, 0, none⟩) 0 0 [] := by
 subst hg
 exact (SepII.fresh0 w).weak fun b _ hb => ⟨Nat.le_trans h hb.1, hb.2⟩
theorem iElements_c {S : Nat → Prop} {v : Value} {m : Mat} {w : World} (h : VM w S v m) (hb : bdM m ≤ 1048576) :
  Calls Try.prog 6 #[v] w fun e w' => ∃ x, e = .returned (.tuple #[x, .bool (elsOk m)]) ∧ OII w' (New w w') x (elsL m) ∧ Grow w w' := by
 have hVM := h
 obtain ⟨a, n, c, rfl, h, ir, ic⟩ := h
 have hG1 := (Grow.refl w).alloc #[.int .i64 m.rows, .int .i64 m.cols, .slice a n c] 26
 have bM := Blk.new w #[.int .i64 m.rows, .int .i64 m.cols, .slice a n c] 26
 go_enter Try.func6, Try.ntmps6
 go_wp2_with fail
 refine (iBasisOf_c (hVM.grow hG1) hb).mono ?_
 rintro e w2 ⟨rb, rfl, hB, hG2⟩
 obtain ⟨ba, bn, bc, rfl, oB, rB, fB, i1, i2⟩ := hB
 have hG12 := hG1.trans hG2
 have bM2 := bM.grow hG2
 cases hok : basOk m with
 | false =>
  have Hz := Lib.hid (els_bas hok)
  have hs2 := hG12.size
  clear hok oB rB fB
  go_wp2
  go_ret2
  exact ⟨_, by rw [Hz.out.1]; rfl, by rw [Hz.out.2]; exact ⟨_, _, _, rfl, SepII.nilAt (by simp) (by simp; omega)⟩, (hG12.alloc _ _).alloc _ _⟩
 | true =>
  obtain ⟨C, N, b, hbas⟩ := bas_of hok
  have Hbas := Lib.hid hbas
  have hC24 := hbas.hC
  have hN24 := hbas.hN
  have Hok := Lib.hid hok
  rw [hbas.eq] at oB rB ⊢
  clear i1 i2
  obtain ⟨w3, hw3⟩ : ∃ w3, w3 = w2.alloc (.cells #[.int .i64 (N : Int), .int .i64 (C : Int), .slice ba bn bc] 26) := ⟨_, rfl⟩
  have hG3 : Grow w2 w3 := by rw [hw3]; exact (Grow.refl w2).alloc _ _
  have bB : Blk w3 w2.heap.size #[.int .i64 (N : Int), .int .i64 (C : Int), .slice ba bn bc] 26 := by rw [hw3]; exact Blk.new w2 _ _
  have rB0 : RdI w3 (fun g => g < w2.heap.size) ba bn bc b := (oB.rdI (S := fun g => g < w2.heap.size) (fun g hg => (fB g hg).2) rB).grow hG3
  have bM3 := bM2.grow hG3
  obtain ⟨⟨m0, m1, m2⟩, -⟩ := bM3.three
  obtain ⟨⟨k0, k1, k2⟩, -⟩ := bB.three
  rw [hw3] at m0 m1 m2 k0 k1 k2
  have hltM := bM2.lt
  have hs12 := hG12.size
  have hs3 := hG3.size
  have hs3l : w2.heap.size < w3.heap.size := by rw [hw3]; simp
  have Hw3 := Lib.hid hw3
  have hcols := hbas.cols
  rw [hcols] at m1
  clear hok hbas hw3 oB rB fB bM bM2 bM3 hcols
  by_cases hNC : N = C
  ·subst hNC
   have q1 : ((N : Int) == (N : Int)) = true := by simp
   have q2 : ((N : Int) != (N : Int)) = false := by simp
   have hmk := T_ints.make (n := N) (by omega) (by unfold maxLen; omega)
   go_wp2_with fail
   obtain ⟨wl, hwl⟩ : ∃ x, x = w3.alloc (.cells (madeCells #[.int .i64 0] N) 3) := ⟨_, rfl⟩
   have hs3e : w3.heap.size = w2.heap.size + 1 := by rw [Hw3.out]; simp
   have hsle : wl.heap.size = w2.heap.size + 1 + 1 := by rw [hwl]; simp [hs3e]
   have hGl : Grow w3 wl := by rw [hwl]; exact (Grow.refl _).alloc _ _
   have rdl : RdI wl (fun _ => True) (some ⟨w2.heap.size + 1, 0, none⟩) N N (List.replicate N 0) := by
    rw [hwl]
    refine ⟨?_, fun x hx => by obtain rfl := (List.mem_replicate.1 hx).2; unfold I64; omega⟩
    have := (Own.freshAt (w := w3) (e := 3) (sz := 1) (cs := madeCells #[.int .i64 0] N) (n := N) hs3e.symm (by unfold maxLen; omega) (by simp [madeCells])).row (S := fun _ => True) fun _ _ => trivial
    have e := madeCells_ints N
    rw [Nat.mul_one] at e
    rw [e] at this
    exact this
   have hE : Own (wl.alloc (.cells #[] 3)) 3 1 (some ⟨w2.heap.size + 1 + 1, 0, none⟩) 0 0 [] := Own.freshAt (cs := #[]) hsle.symm (by unfold maxLen; omega) rfl
   have Htri := Lib.hid (bas_tri Hbas.out Hok.out)
   have hDb : ∀ i, i < N → 0 < cell b N i i ∧ cell b N i i ≤ 400000000 := fun i hi => ⟨(Htri.out i hi).1, (Hbas.out.num.getD (i * N + i)).2⟩
   have hbl := Hbas.out.len
   obtain ⟨D, hD⟩ : ∃ D : Nat → Int, D = fun i => cell b N i i := ⟨_, rfl⟩
   have hDD : ∀ i, i < N → 0 < D i ∧ D i ≤ 400000000 := by rw [hD]; exact hDb
   have hcell : ∀ i, i < N → b[i * N + i]? = some (D i) := fun i hi => by
    rw [hD]
    exact cell_get (by rw [hbl]; exact place_lt hi hi)
   have Hno := Lib.hid (fun h => els_big Hbas.out (by rw [← hD]; exact h))
   have Hyes := Lib.hid (fun h => els_yes Hbas.out Hok.out (by rw [← hD]; exact h))
   rw [← hD] at Hyes
   have HDD := Lib.hid hDD
   have Hcell := Lib.hid hcell
   rw [← Hw3.out, ← hwl]
   have Hsle := Lib.hid hsle
   have bBl := bB.grow hGl
   have rBl := rB0.grow hGl
   have hsl : w2.heap.size < wl.heap.size := by omega
   have hs2l : w.heap.size ≤ wl.heap.size := by omega
   have hGwl := (hG12.trans hG3).trans hGl
   clear hwl hs3e hsle hDb hbl hD hDD hcell bB rB0 k0 k1 k2 m0 m1 m2 q1 q2 hmk
   go_loopw [7, 8, 9] (fun hv cv iv wr => Grow wl wr ∧ ∃ (k c2 : Nat) (a2 : Option Addr), k ≤ N ∧ iv = .int .i64 k ∧ cv = .int .i64 (pdN D k : Nat) ∧ pdN D k ≤ 500 ∧ hv = .slice a2 k c2 ∧ Own wr 3 1 a2 k c2 (ints (hiL D k)) ∧ ∀ g, blk a2 = some g → wl.heap.size ≤ g) (fun _ _ i _ => N - (intOf i).toNat)
   case atStart => exact ⟨(Grow.refl _).alloc _ _, 0, 0, _, Nat.zero_le _, rfl, rfl, by simp [pdN], rfl, hE, fun g hg => by simp at hg; rw [← hg, Hsle.out]; omega⟩
   case round =>
    obtain ⟨hG, k, c2, a2, hk, rfl, rfl, hP, rfl, hO, hlo⟩ := hrel
    have bBr := bBl.grow hG
    have rBr := rBl.grow hG
    have hlt3 := bBr.lt
    obtain ⟨⟨k0, k1, k2⟩, -⟩ := bBr.three
    by_cases hlt : k < N
    ·have hd := HDD.out k hlt
     have hx := Hcell.out k hlt
     have hrl := rBr.len
     go_wp2_with fail
     refine (at_c ba bn bc N k k (k * N + k) (N : Int) (D k) b _ rBr rfl hx (by rw [← hrl, Hbas.out.len]; exact Nat.le_trans (Nat.mul_le_mul hN24 hN24) (by decide)) (by omega) (by omega) (by omega)).mono ?_
     rintro e wa ⟨rfl, hGa⟩
     have hI64 : I64 (D k - 1) := by unfold I64; omega
     have hw1 : wrap64 (D k - 1) = D k - 1 := by unfold wrap64; omega
     go_wp2_with (first
      | (at_builtin; refine wpList_app rfl (.tmp 37) (.tmp 43) _ rfl T_ints rfl ((hO.grow hGa).grow ((Grow.refl _).alloc _ _)) rfl (Row.built (S := fun _ => True) 1 (by unfold maxLen; omega) rfl trivial) (by simp [Value.oneCell']) (by omega) (by unfold maxLen; omega) ?_; intro a3 c3 w5 hA5; have hG5 : Grow wl w5 := hA5.grow ((hG.trans hGa).trans ((Grow.refl _).alloc _ _)) hlo; have bB5 := bBl.grow hG5; obtain ⟨⟨y0, y1, y2⟩, -⟩ := bB5.three; have hlt5 := bB5.lt)
      | fail)
     have rB5 := rBl.grow hG5
     have hO5 : Own w5 3 1 a3 (k + 1) c3 (ints (hiL D (k + 1))) := by
      have := hA5.own
      rw [hiL_next]
      simpa using this
     have hlo5 : ∀ g, blk a3 = some g → wl.heap.size ≤ g := hA5.lo (by have := (hG.trans hGa).size; simp; omega) hlo
     refine (at_c ba bn bc N k k (k * N + k) (N : Int) (D k) b _ rB5 rfl hx (by rw [← hrl, Hbas.out.len]; exact Nat.le_trans (Nat.mul_le_mul hN24 hN24) (by decide)) (by omega) (by omega) (by omega)).mono ?_
     rintro e w6 ⟨rfl, hG6⟩
     have h3 : ((pdN D (k + 1) : Nat) : Int) = (pdN D k : Nat) * D k := by
      simp only [pdN]
      rw [Int.natCast_mul, Int.toNat_of_nonneg (by omega)]
     have hmon : pdN D (k + 1) ≤ pdN D N := pdN_mono (fun i hi => (HDD.out i hi).1) hlt
     obtain ⟨d, hdd⟩ : ∃ d, D k = d := ⟨_, rfl⟩
     obtain ⟨P, hPd⟩ : ∃ P : Nat, pdN D k = P := ⟨_, rfl⟩
     obtain ⟨P', hPd'⟩ : ∃ P : Nat, pdN D (k + 1) = P := ⟨_, rfl⟩
     rw [hPd'] at hmon
     rw [hdd] at hd h3
     rw [hPd] at hP h3
     rw [hPd'] at h3
     rw [hPd, hdd]
     have hP5 : (P : Int) * d ≤ 500 * 400000000 := Int.mul_le_mul (by omega) (by omega) (by omega) (by omega)
     have hw : wrap64 ((P : Int) * d) = P' := by rw [← h3]; unfold wrap64; omega
     have HPd' := Lib.hid hPd'
     have Hmon := Lib.hid hmon
     have hG56 := hG5.trans hG6
     clear hA5 h3 hP5 hPd hPd' hdd hmon y0 y1 y2 k0 k1 k2 hlt5 hlt3 bBr rBr bB5 rB5 hO hlo hx hrl hI64 hw1
     by_cases hbig : P' ≤ 500
     ·have hnb : ¬ (500 : Int) < P' := by omega
      go_wp2
      go_roundw
      case rel => exact ⟨hG56, k + 1, c3, a3, by omega, by go_num, by rw [HPd'.out, hw], by rw [HPd'.out]; exact hbig, rfl, hO5.grow hG6, hlo5⟩
      case measure => simp [intOf]; omega
     ·have hnb : (500 : Int) < P' := by omega
      have Hz := Lib.hid (Hno.out (by have := Hmon.out; omega))
      have hs6 := hG56.size
      go_wp2
      go_ret2
      exact ⟨_, by rw [Hz.out.1]; rfl, by rw [Hz.out.2]; exact ⟨_, _, _, rfl, SepII.nilAt rfl (by omega)⟩, (hGwl.trans hG56).alloc _ _⟩
    ·obtain rfl : k = N := by omega
     have Hz := Lib.hid (Hyes.out hP)
     have hrng : ∀ x ∈ hiL D k, I64 x := fun x hx => by
      obtain ⟨i, hi, rfl⟩ := List.mem_map.1 hx
      have := HDD.out i (List.mem_range.1 hi)
      unfold I64; omega
     go_wp2_with fail
     refine (boxed_c _ a2 k k c2 D _ (rdl.grow hG) (hO.rdI (S := fun _ => True) (fun _ _ => trivial) hrng) hC24 HDD.out hP).mono ?_
     rintro e w9 ⟨xa, xm, xc, rfl, hS9, hG9⟩
     have hs9 := (hGwl.trans hG).size
     clear k0 k1 k2
     go_wp2
     go_ret2
     exact ⟨_, by rw [Hz.out.1]; rfl, by rw [Hz.out.2]; exact ⟨_, _, _, rfl, hS9.weak fun q _ hq => ⟨by have := hq.1; omega, hq.2⟩⟩, (hGwl.trans hG).trans hG9⟩
  ·have q1 : ((N : Int) == (C : Int)) = false := by simp; omega
   have q2 : ((N : Int) != (C : Int)) = true := by simp; omega
   have Hz := Lib.hid (els_ne Hbas.out hNC)
   go_wp2
   rw [← Hw3.out]
   go_ret2
   exact ⟨_, by rw [Hz.out.1]; rfl, by rw [Hz.out.2]; exact ⟨_, _, _, rfl, SepII.nilAt (by rw [Hw3.out]; simp) (by omega)⟩, (hG12.trans hG3).alloc _ _⟩
theorem sElements_c {S : Nat → Prop} {v : Value} {m : Mat} {w : World} (h : VM w S v m) (hb : bdM m ≤ 1048576) :
  Calls Try.prog 7 #[v] w fun e w' => ∃ x, e = .returned (.tuple #[x, .bool (elsOk m)]) ∧ OII w' (New w w') x (elsL m) ∧ Grow w w' := by
 have hVM := h
 obtain ⟨a, n, c, rfl, h, ir, ic⟩ := h
 have hG1 := (Grow.refl w).alloc #[.int .i64 m.rows, .int .i64 m.cols, .slice a n c] 26
 have bM := Blk.new w #[.int .i64 m.rows, .int .i64 m.cols, .slice a n c] 26
 go_enter Try.func7, Try.ntmps7
 go_wp2_with fail
 refine (sBasisOf_c (hVM.grow hG1) hb).mono ?_
 rintro e w2 ⟨rb, rfl, hB, hG2⟩
 obtain ⟨ba, bn, bc, rfl, oB, rB, fB, i1, i2⟩ := hB
 have hG12 := hG1.trans hG2
 have bM2 := bM.grow hG2
 cases hok : basOk m with
 | false =>
  have Hz := Lib.hid (els_bas hok)
  have hs2 := hG12.size
  clear hok oB rB fB
  go_wp2
  go_ret2
  exact ⟨_, by rw [Hz.out.1]; rfl, by rw [Hz.out.2]; exact ⟨_, _, _, rfl, SepII.nilAt (by simp) (by simp; omega)⟩, (hG12.alloc _ _).alloc _ _⟩
 | true =>
  obtain ⟨C, N, b, hbas⟩ := bas_of hok
  have Hbas := Lib.hid hbas
  have hC24 := hbas.hC
  have hN24 := hbas.hN
  have Hok := Lib.hid hok
  rw [hbas.eq] at oB rB ⊢
  clear i1 i2
  obtain ⟨w3, hw3⟩ : ∃ w3, w3 = w2.alloc (.cells #[.int .i64 (N : Int), .int .i64 (C : Int), .slice ba bn bc] 26) := ⟨_, rfl⟩
  have hG3 : Grow w2 w3 := by rw [hw3]; exact (Grow.refl w2).alloc _ _
  have bB : Blk w3 w2.heap.size #[.int .i64 (N : Int), .int .i64 (C : Int), .slice ba bn bc] 26 := by rw [hw3]; exact Blk.new w2 _ _
  have rB0 : RdI w3 (fun g => g < w2.heap.size) ba bn bc b := (oB.rdI (S := fun g => g < w2.heap.size) (fun g hg => (fB g hg).2) rB).grow hG3
  have bM3 := bM2.grow hG3
  obtain ⟨⟨m0, m1, m2⟩, -⟩ := bM3.three
  obtain ⟨⟨k0, k1, k2⟩, -⟩ := bB.three
  rw [hw3] at m0 m1 m2 k0 k1 k2
  have hltM := bM2.lt
  have hs12 := hG12.size
  have hs3 := hG3.size
  have hs3l : w2.heap.size < w3.heap.size := by rw [hw3]; simp
  have Hw3 := Lib.hid hw3
  have hcols := hbas.cols
  rw [hcols] at m1
  clear hok hbas hw3 oB rB fB bM bM2 bM3 hcols
  by_cases hNC : N = C
  ·subst hNC
   have q1 : ((N : Int) == (N : Int)) = true := by simp
   have q2 : ((N : Int) != (N : Int)) = false := by simp
   go_wp2_with fail
   have hs3e : w3.heap.size = w2.heap.size + 1 := by rw [Hw3.out]; simp
   have hE1 : Own ((w3.alloc (.cells #[] 3)).alloc (.cells #[] 3)) 3 1 (some ⟨w2.heap.size + 1, 0, none⟩) 0 0 [] := (Own.freshAt (cs := #[]) hs3e.symm (by unfold maxLen; omega) rfl).grow ((Grow.refl _).alloc _ _)
   have hE2 : Own ((w3.alloc (.cells #[] 3)).alloc (.cells #[] 3)) 3 1 (some ⟨w2.heap.size + 1 + 1, 0, none⟩) 0 0 [] := Own.freshAt (cs := #[]) (by simp [hs3e]) (by unfold maxLen; omega) rfl
   have Htri := Lib.hid (bas_tri Hbas.out Hok.out)
   have hDb : ∀ i, i < N → 0 < cell b N i i ∧ cell b N i i ≤ 400000000 := fun i hi => ⟨(Htri.out i hi).1, (Hbas.out.num.getD (i * N + i)).2⟩
   obtain ⟨D, hD⟩ : ∃ D : Nat → Int, D = fun i => cell b N i i := ⟨_, rfl⟩
   have hDD : ∀ i, i < N → 0 < D i ∧ D i ≤ 400000000 := by rw [hD]; exact hDb
   have Hno := Lib.hid (fun h => els_big Hbas.out (by rw [← hD]; exact h))
   have Hyes := Lib.hid (fun h => els_yes Hbas.out Hok.out (by rw [← hD]; exact h))
   rw [← hD] at Hyes
   have HDD := Lib.hid hDD
   have HDe := Lib.hid (fun k => (congrFun hD k).symm)
   rw [← Hw3.out]
   have Hs3e := Lib.hid hs3e
   have hGw3 := hG12.trans hG3
   clear hs3e hDb hD hDD k0 k1 k2 m0 m1 m2 q1 q2
   go_loopw [6, 7, 8, 9] (fun cv lv hv iv wr => Grow w3 wr ∧ ∃ (k c1 c2 : Nat) (a1 a2 : Option Addr) (x : Int), k ≤ N ∧ iv = .int .i64 k ∧ cv = .int .i64 x ∧ ((x = (pdN D k : Nat) ∧ x ≤ 400000000) ∨ (x = badN ∧ 400000000 < ((pdN D k : Nat) : Int))) ∧ lv = .slice a1 k c1 ∧ hv = .slice a2 k c2 ∧ Own wr 3 1 a1 k c1 (ints (List.replicate k 0)) ∧ Own wr 3 1 a2 k c2 (ints (hiL D k)) ∧ (∀ g, blk a1 = some g → w3.heap.size ≤ g) ∧ (∀ g, blk a2 = some g → w3.heap.size ≤ g) ∧ ∀ g, blk a1 = some g → blk a2 ≠ some g) (fun _ _ _ i _ => N - (intOf i).toNat)
   case atStart => exact ⟨((Grow.refl _).alloc _ _).alloc _ _, 0, 0, 0, _, _, 1, Nat.zero_le _, rfl, rfl, .inl ⟨by simp [pdN], by omega⟩, rfl, rfl, hE1, hE2, fun g hg => by simp at hg; rw [← hg, Hs3e.out]; omega, fun g hg => by simp at hg; rw [← hg, Hs3e.out]; omega, fun g hg => by simp at hg ⊢; omega⟩
   case round =>
    obtain ⟨hG, k, c1, c2, a1, a2, x, hk, rfl, rfl, hx, rfl, rfl, hO1, hO2, hlo1, hlo2, hne⟩ := hrel
    have bBr := bB.grow hG
    have hlt3 := bBr.lt
    have hsr := hG.size
    obtain ⟨⟨k0, k1, k2⟩, -⟩ := bBr.three
    have hbl := Hbas.out.len
    have hrl := rB0.len
    by_cases hlt : k < N
    ·have hd := HDD.out k hlt
     have hpl := place_lt (C := N) (R := N) hlt hlt
     have hlen : k * N + k < bn := by omega
     go_wp2_with (at_builtin; refine wpList_app rfl (.tmp 35) (.tmp 36) _ rfl T_ints rfl (hO1.grow ((Grow.refl _).alloc _ _)) rfl (Row.built (S := fun _ => True) 1 (by unfold maxLen; omega) rfl trivial) (by simp [Value.oneCell']) (by omega) (by unfold maxLen; omega) ?_; intro a3 c3 w5 hA5; have hG5 : Grow w3 w5 := hA5.grow (hG.trans ((Grow.refl _).alloc _ _)) hlo1; have bB5 := bB.grow hG5; obtain ⟨⟨y0, y1, y2⟩, -⟩ := bB5.three; have hlt5 := bB5.lt)
     have rB5 := rB0.grow hG5
     have hO5 : Own w5 3 1 a3 (k + 1) c3 (ints (List.replicate (k + 1) 0)) := by
      have := hA5.own
      rw [List.replicate_succ']
      simpa using this
     have hlo5 : ∀ g, blk a3 = some g → w3.heap.size ≤ g := hA5.lo (by simp; omega) hlo1
     have hO25 : Own w5 3 1 a2 k c2 (ints (hiL D k)) := (hO2.grow ((Grow.refl _).alloc _ _)).keep hA5.keep fun g hg _ e => hne g e hg
     have hne5 : ∀ g, blk a3 = some g → blk a2 ≠ some g := by
      rcases hA5.new with e | ⟨g', e, hge⟩
      ·rw [e]; exact hne
      ·intro g hg e2
       rw [e] at hg
       obtain rfl := Option.some.inj hg
       have := hO2.lt e2
       simp at hge; omega
     clear hA5 hO1 hO2 hne k0 k1 k2
     refine (l12Cell_c ba bn bc N k k (N : Int) b _ rB5 hlen (by omega) (by omega) (by omega)).mono ?_
     rw [HDe.out k]
     rintro e w6 ⟨rfl, hG6⟩
     go_wp2_with (first
      | (at_builtin; refine wpList_app rfl (.tmp 38) (.tmp 44) _ rfl T_ints rfl ((hO25.grow hG6).grow ((Grow.refl _).alloc _ _)) rfl (Row.built (S := fun _ => True) 1 (by unfold maxLen; omega) rfl trivial) (by simp [Value.oneCell']) (by omega) (by unfold maxLen; omega) ?_; intro a4 c4 w7 hA7; have hG7 : Grow w3 w7 := hA7.grow ((hG5.trans hG6).trans ((Grow.refl _).alloc _ _)) hlo2; have bB7 := bB.grow hG7; obtain ⟨⟨z0, z1, z2⟩, -⟩ := bB7.three; have hlt7 := bB7.lt)
      | fail)
     have rB7 := rB0.grow hG7
     have hO7 : Own w7 3 1 a4 (k + 1) c4 (ints (hiL D (k + 1))) := by
      have := hA7.own
      rw [hiL_next]
      simpa using this
     have hlo7 : ∀ g, blk a4 = some g → w3.heap.size ≤ g := hA7.lo (by have := (hG5.trans hG6).size; simp; omega) hlo2
     have hO57 : Own w7 3 1 a3 (k + 1) c3 (ints (List.replicate (k + 1) 0)) := ((hO5.grow hG6).grow ((Grow.refl _).alloc _ _)).keep hA7.keep fun g hg _ e => hne5 g hg e
     have hne7 : ∀ g, blk a3 = some g → blk a4 ≠ some g := by
      rcases hA7.new with e | ⟨g', e, hge⟩
      ·rw [e]; exact hne5
      ·intro g hg e2
       rw [e] at e2
       obtain rfl := Option.some.inj e2
       have := (hO5.grow hG6).lt hg
       simp at hge; omega
     clear hA7 hO25 hO5 hne5 y0 y1 y2
     refine (l12Cell_c ba bn bc N k k (N : Int) b _ rB7 hlen (by omega) (by omega) (by omega)).mono ?_
     rw [HDe.out k]
     rintro e w8 ⟨rfl, hG8⟩
     have h3 : ((pdN D (k + 1) : Nat) : Int) = (pdN D k : Nat) * D k := by
      simp only [pdN]
      rw [Int.natCast_mul, Int.toNat_of_nonneg (by omega)]
     have hp1 := pdN_pos (D := D) (n := k) fun i hi => (HDD.out i (by omega)).1
     have hxs : NumS x := by unfold NumS; rcases hx with h | h <;> omega
     have hds : NumS (D k) := .inl (by omega)
     have hx' : (mulS x (D k) = ((pdN D (k + 1) : Nat) : Int) ∧ mulS x (D k) ≤ 400000000) ∨ (mulS x (D k) = badN ∧ 400000000 < ((pdN D (k + 1) : Nat) : Int)) := by
      have hnb : ¬ D k = badN := by unfold badN; omega
      rcases hx with ⟨h1, h2⟩ | ⟨h1, h2⟩
      ·have hnx : ¬ x = badN := by unfold badN; omega
       unfold mulS fitB
       rw [if_neg (fun e => e.elim hnx hnb), h1, ← h3]
       by_cases hle : ((pdN D (k + 1) : Nat) : Int) ≤ 400000000
       ·rw [if_pos (isNumB_iff.2 ⟨by omega, hle⟩)]; exact .inl ⟨rfl, hle⟩
       ·rw [if_neg fun e => hle (isNumB_iff.1 e).2]; exact .inr ⟨rfl, by omega⟩
      ·refine .inr ⟨by unfold mulS; rw [if_pos (.inl h1)], ?_⟩
       have : ((pdN D k : Nat) : Int) * 1 ≤ ((pdN D k : Nat) : Int) * D k := Int.mul_le_mul_of_nonneg_left (by omega) (by omega)
       omega
     go_wp2_with (go_at_call 20; refine (l1Mul_c x (D k) _ hxs hds).mono ?_; rintro e w' ⟨rfl, rfl⟩)
     go_roundw
     case rel => exact ⟨hG7.trans hG8, k + 1, c3, c4, a3, a4, _, by omega, by go_num, rfl, hx', rfl, rfl, hO57.grow hG8, hO7.grow hG8, hlo5, hlo7, hne7⟩
     case measure => simp [intOf]; omega
    ·obtain rfl : k = N := by omega
     have hrng : ∀ x ∈ hiL D k, I64 x := fun x hx => by
      obtain ⟨i, hi, rfl⟩ := List.mem_map.1 hx
      have := HDD.out i (List.mem_range.1 hi)
      unfold I64; omega
     have hs9 := (hGw3.trans hG).size
     by_cases hsm : pdN D k ≤ 500
     ·have Hz := Lib.hid (Hyes.out hsm)
      obtain ⟨P, hP⟩ : ∃ P : Nat, pdN D k = P := ⟨_, rfl⟩
      obtain ⟨hx1, hx2⟩ : x = ((P : Nat) : Int) ∧ P ≤ 500 := by
       rcases hx with h | h <;> omega
      subst hx1
      have HP := Lib.hid hP
      have Hsm := Lib.hid hsm
      clear hP hsm hx
      have q3 : (((P : Nat) : Int) == -4611686018427387904) = false := by rw [beq_eq_false_iff_ne]; omega
      have q4 : ¬ (500 : Int) < ((P : Nat) : Int) := by omega
      go_wp2_with fail
      refine (l20Box_c a1 a2 k c1 c2 D _ (hO1.rdI (S := fun _ => True) (fun _ _ => trivial) fun x hx => by obtain rfl := (List.mem_replicate.1 hx).2; unfold I64; omega) (hO2.rdI (S := fun _ => True) (fun _ _ => trivial) hrng) hC24 HDD.out Hsm.out).mono ?_
      rintro e w9 ⟨xa, xm, xc, rfl, hS9, hG9⟩
      clear k0 k1 k2
      go_wp2
      go_ret2
      exact ⟨_, by rw [Hz.out.1]; rfl, by rw [Hz.out.2]; exact ⟨_, _, _, rfl, hS9.weak fun q _ hq => ⟨by have := hq.1; omega, hq.2⟩⟩, (hGw3.trans hG).trans hG9⟩
     ·have Hz := Lib.hid (Hno.out hsm)
      obtain ⟨P, hP⟩ : ∃ P : Nat, pdN D k = P := ⟨_, rfl⟩
      rw [hP] at hx hsm
      have hx3 : x = -4611686018427387904 ∨ (¬ x = -4611686018427387904 ∧ (500 : Int) < x) := by
       rcases hx with h | h
       ·right; omega
       ·left; exact h.1
      clear hP hx
      rcases hx3 with h | ⟨h1, h2⟩
      ·subst h
       go_wp2
       go_ret2
       exact ⟨_, by rw [Hz.out.1]; rfl, by rw [Hz.out.2]; exact ⟨_, _, _, rfl, SepII.nilAt rfl (by omega)⟩, (hGw3.trans hG).alloc _ _⟩
      ·have q3 : (x == -4611686018427387904) = false := by rw [beq_eq_false_iff_ne]; exact h1
       go_wp2
       go_ret2
       exact ⟨_, by rw [Hz.out.1]; rfl, by rw [Hz.out.2]; exact ⟨_, _, _, rfl, SepII.nilAt rfl (by omega)⟩, (hGw3.trans hG).alloc _ _⟩
  ·have q1 : ((N : Int) == (C : Int)) = false := by simp; omega
   have q2 : ((N : Int) != (C : Int)) = true := by simp; omega
   have Hz := Lib.hid (els_ne Hbas.out hNC)
   go_wp2
   rw [← Hw3.out]
   go_ret2
   exact ⟨_, by rw [Hz.out.1]; rfl, by rw [Hz.out.2]; exact ⟨_, _, _, rfl, SepII.nilAt (by rw [Hw3.out]; simp) (by omega)⟩, (hG12.trans hG3).alloc _ _⟩
end Go.Proofs.Ytoiblknchcoecaa

namespace Go.Proofs.Ytoiblknchcoecaa
structure ModF (m : Mat) : Prop where
 free : invN m = 0
 count : prd (gt1 (facB m)) = ((elsL m).length : Int)
 le : (elsL m).length ≤ 500
 num : ∀ x ∈ gt1 (facB m), 1 < x ∧ x ≤ 500
 ord : ∀ v ∈ elsL m, (ordR m v).2 = true → ∃ q : Nat, 1 ≤ q ∧ (ordR m v).1 = (q : Int) ∧ (gt1 (facB m) = [] → (q : Int) ∣ 1) ∧ ∀ y, (gt1 (facB m))[(gt1 (facB m)).length - 1]? = some y → (q : Int) ∣ y
theorem els_nrm {m : Mat} (h : elsOk m = true) {v : List Int} (hv : v ∈ elsL m) : nrmB m v = true ∧ nrmL m v = v ∧ v.length ≤ 24 := by
 obtain ⟨ho, C, b, hb, hc, hd, hp, he⟩ := els_parts h
 rw [he] at hv
 have e : dgB m = fun i => cell b C i i := funext hd
 rw [e] at hv
 have := nrm_some (nrm_box hb ho hv)
 exact ⟨this.1, this.2, by rw [(boxN_mem hv).1]; exact hb.hC⟩
theorem mod_of {m : Mat} (h : elsOk m = true) (hf : facOk m = true) : ModF m := by
 obtain ⟨ho, C, b, hb, hc, hd, hp, he⟩ := els_parts h
 have e : dgB m = fun i => cell b C i i := funext hd
 have hL := (bas_fac hb ho hf).symm
 obtain ⟨R0, C0, hF⟩ := fac_of hf
 have hpd := pdN_gt1 hF.pos (facB m).length (Nat.le_refl _)
 rw [List.take_length] at hpd
 have ht := tri_fac hb ho hf hL
 have hcnt : prd (gt1 (facB m)) = ((elsL m).length : Int) := by
  rw [hpd, he, boxN_len, e, hL, ht]
 have hle : (elsL m).length ≤ 500 := by rw [he, boxN_len]; exact hp
 have hge : ∀ x ∈ gt1 (facB m), 1 ≤ x := fun x hx => by have := (gt1_mem hx).2; omega
 refine ⟨by unfold invN; rw [if_pos hf, hL, hc]; omega, hcnt, hle, fun x hx => ⟨(gt1_mem hx).2, ?_⟩, fun v hv hg => ?_⟩
 ·obtain ⟨i, hi, rfl⟩ := List.getElem_of_mem hx
  have h1 := prd_le hge (i + 1)
  have h2 := prd_take hge i
  rw [take_succ (List.getElem?_eq_getElem hi), prd_snoc] at h1
  have h3 : (gt1 (facB m))[i] ≤ prd ((gt1 (facB m)).take i) * (gt1 (facB m))[i] := by rw [Int.mul_comm]; exact le_mulr (by have := hge _ hx; omega) h2.1
  omega
 ·rw [he, e] at hv
  have hn := nrm_box hb ho hv
  obtain ⟨Rs, hrs, hs⟩ := bas_spn hb ho
  have key : ∀ {y : Int}, (∀ j, j < (facB m).length → dS (facB m) j ∣ y) → Spn C C (cell b C) fun j => y * vecF v j := fun {y} hy => by
   obtain ⟨R', hr', hx⟩ := fac_last hf hc hL (e := y) fun j hj => hy j (by omega)
   obtain rfl : R' = Rs := by omega
   exact (hs _).1 (hx (vecF v))
  by_cases hz : gt1 (facB m) = []
  ·obtain ⟨q, q1, q2, q3⟩ := ord_dvd hb ho hn (key (last_none hF.pos hz)) hg
   exact ⟨q, q1, q2, fun _ => q3, fun y hy => by rw [hz] at hy; simp at hy⟩
  ·have hpos : 0 < (gt1 (facB m)).length := List.length_pos_iff.2 hz
   have hy0 : (gt1 (facB m))[(gt1 (facB m)).length - 1]? = some (gt1 (facB m))[(gt1 (facB m)).length - 1] := List.getElem?_eq_getElem (by omega)
   obtain ⟨q, q1, q2, q3⟩ := ord_dvd hb ho hn (key (last_some hF.pos hF.dv hy0).2) hg
   exact ⟨q, q1, q2, fun e => absurd e hz, fun y hy => by rw [hy0] at hy; rw [← Option.some.inj hy]; exact q3⟩
end Go.Proofs.Ytoiblknchcoecaa
