/-
  Hermite forms and lattices: plain.
-/
import Derived.Test.YtoiblknchcoecaaGreatZNorm
import Derived.Test.YtoiblknchcoecaaGreatZBasI
import Derived.Test.YtoiblknchcoecaaGreatZBase
import Derived.Test.YtoiblknchcoecaaGreatZHermF
set_option maxHeartbeats 8000000
set_option maxRecDepth 100000
namespace Go.Proofs.YtoiblknchcoecaaGreat
open Go.RowKit
def pvR (m : List Int) (C i : Nat) : Nat := fz (rowL m C i)
def lastP (m : List Int) (C : Nat) : Nat → Int
 | 0 => -1
 | i + 1 => if nzB m C i = true then ((pvR m C i : Nat) : Int) else (C : Int)
def abI (m : List Int) (C i k : Nat) : Bool := decide (0 ≤ cell m C k (pvR m C i)) && decide (cell m C k (pvR m C i) < cell m C i (pvR m C i))
def hiB (m : List Int) (C i : Nat) : Bool := !nzB m C i || (decide (lastP m C i < (pvR m C i : Nat)) && (decide (0 ≤ cell m C i (pvR m C i)) && (List.range i).all (abI m C i)))
def abS (m : List Int) (C i k : Nat) : Bool := (!decide (k < i) || abI m C i k) && (!decide (i < k) || cell m C k (pvR m C i) == 0)
def hsB (m : List Int) (C R i : Nat) : Bool := !nzB m C i || (decide (lastP m C i < (pvR m C i : Nat)) && (decide (0 ≤ cell m C i (pvR m C i)) && (List.range R).all (abS m C i)))
def hermI (m : List Int) (C R : Nat) : Bool := (List.range R).all (hiB m C)
theorem all_no {f : Nat → Bool} {n i : Nat} (hi : i < n) (h : f i = false) : (List.range n).all f = false := by
 rw [Bool.eq_false_iff]; intro e
 rw [List.all_eq_true] at e
 rw [e i (List.mem_range.2 hi)] at h; cases h
theorem all_yes {f : Nat → Bool} {n : Nat} (h : ∀ i, i < n → f i = true) : (List.range n).all f = true := List.all_eq_true.2 fun i hi => h i (List.mem_range.1 hi)
theorem all_at {f : Nat → Bool} {n i : Nat} (h : (List.range n).all f = true) (hi : i < n) : f i = true := List.all_eq_true.1 h i (List.mem_range.2 hi)
def nzAll (m : List Int) (C R : Nat) : Bool := (List.range R).all (nzB m C)
theorem zeros_nil {m : List Int} {C R : Nat} : ((List.range R).filter fun i => !nzB m C i) = [] ↔ nzAll m C R = true := by
 rw [List.filter_eq_nil_iff]
 unfold nzAll
 rw [List.all_eq_true]
 constructor
 ·intro h i hi; have := h i hi; simpa using this
 ·intro h i hi; rw [h i hi]; simp
def hermB (m : Mat) : Bool := isMatB m && hermI m.cells m.cols.toNat m.rows.toNat
def latB (m : Mat) : Bool := hermB m && nzAll m.cells m.cols.toNat m.rows.toNat
theorem hermB_no {m : Mat} (h : isMatB m = false) : hermB m = false := by unfold hermB; rw [h]; rfl
theorem latB_no {m : Mat} (h : hermB m = false) : latB m = false := by unfold latB; rw [h]; rfl
theorem hermB_mat {R C : Nat} {cells : List Int} (hB : isMatB { rows := (R : Int), cols := (C : Int), cells := cells } = true) : hermB { rows := (R : Int), cols := (C : Int), cells := cells } = hermI cells C R := by
 unfold hermB; rw [hB]; rfl
theorem latB_mat {R C : Nat} {cells : List Int} (hB : isMatB { rows := (R : Int), cols := (C : Int), cells := cells } = true) (h : hermI cells C R = true) : latB { rows := (R : Int), cols := (C : Int), cells := cells } = nzAll cells C R := by
 unfold latB; rw [hermB_mat hB, h]; rfl
structure Lat (m : Mat) (C N : Nat) : Prop where
 rows : m.rows = (N : Int)
 cols : m.cols = (C : Int)
 hC : C ≤ 24
 hN : N ≤ 24
 len : m.cells.length = N * C
 num : NumL m.cells
 full : ∀ i, i < N → ∃ k, k < C ∧ cell m.cells C i k ≠ 0
theorem lat_of {m : Mat} (h : latB m = true) : ∃ C N, Lat m C N := by
 unfold latB hermB at h
 rw [Bool.and_eq_true, Bool.and_eq_true] at h
 obtain ⟨⟨hB, -⟩, hz⟩ := h
 obtain ⟨R, C, hmr, hmc, hR, hC, hl, hnum⟩ := isMatB_shape hB
 refine ⟨C, R, hmr, hmc, hC, hR, hl, hnum, fun i hi => ?_⟩
 rw [hmr, hmc] at hz
 exact nzB_iff.1 (all_at hz hi)
def coQ (b : List Int) (C i : Nat) (x : List Int) : Int := (x.getD (pvR b C i) 0).tdiv (cell b C i (pvR b C i))
def coM (b : List Int) (C i : Nat) (x : List Int) : Int := (x.getD (pvR b C i) 0).tmod (cell b C i (pvR b C i))
def coN (b : List Int) (C : Nat) : Nat → Nat → List Int → List Int → Option (List Int)
 | 0, _, x, out => if zeroL x = true then some out else none
 | n + 1, i, x, out => if coM b C i x = 0 then (if nrmOk b C i x (coQ b C i x) = true then coN b C n (i + 1) (updR (nrmV b C i x (coQ b C i x)) 0 C x) (out ++ [coQ b C i x]) else none) else none
theorem coN_mod {b : List Int} {C n i : Nat} {x out : List Int} (h : coM b C i x ≠ 0) : coN b C (n + 1) i x out = none := by simp only [coN]; rw [if_neg h]
theorem coN_no {b : List Int} {C n i : Nat} {x out : List Int} (h0 : coM b C i x = 0) (h : nrmOk b C i x (coQ b C i x) = false) : coN b C (n + 1) i x out = none := by simp only [coN]; rw [if_pos h0, h]; rfl
theorem coN_yes {b : List Int} {C n i : Nat} {x out : List Int} (h0 : coM b C i x = 0) (h : nrmOk b C i x (coQ b C i x) = true) : coN b C (n + 1) i x out = coN b C n (i + 1) (updR (nrmV b C i x (coQ b C i x)) 0 C x) (out ++ [coQ b C i x]) := by simp only [coN]; rw [if_pos h0, if_pos h]
def coIn (l : Mat) (v : List Int) : Bool := latB l && (decide ((v.length : Int) = l.cols) && numsB v)
def coR (l : Mat) (v : List Int) : Option (List Int) := if coIn l v = true then coN l.cells l.cols.toNat l.rows.toNat 0 v [] else none
def coOk (l : Mat) (v : List Int) : Bool := (coR l v).isSome
def coL (l : Mat) (v : List Int) : List Int := (coR l v).getD []
theorem co_none {l : Mat} {v : List Int} (h : coR l v = none) : coOk l v = false ∧ coL l v = [] := by unfold coOk coL; rw [h]; exact ⟨rfl, rfl⟩
theorem co_some {l : Mat} {v x : List Int} (h : coR l v = some x) : coOk l v = true ∧ coL l v = x := by unfold coOk coL; rw [h]; exact ⟨rfl, rfl⟩
theorem coR_no {l : Mat} {v : List Int} (h : coIn l v = false) : coR l v = none := by unfold coR; rw [h]; rfl
theorem coIn_lat {l : Mat} {v : List Int} (h : latB l = false) : coIn l v = false := by unfold coIn; rw [h]; rfl
theorem coIn_len {l : Mat} {v : List Int} (h : (v.length : Int) ≠ l.cols) : coIn l v = false := by unfold coIn; rw [decide_eq_false h]; simp
theorem coIn_num {l : Mat} {v : List Int} (h : numsB v = false) : coIn l v = false := by unfold coIn; rw [h]; simp
theorem coIn_yes {l : Mat} {v : List Int} (h1 : latB l = true) (h2 : (v.length : Int) = l.cols) (h3 : numsB v = true) : coIn l v = true := by unfold coIn; rw [h1, decide_eq_true h2, h3]; rfl
theorem coR_yes {l : Mat} {v : List Int} {C N : Nat} (hL : Lat l C N) (h : coIn l v = true) : coR l v = coN l.cells C N 0 v [] := by unfold coR; rw [if_pos h, hL.cols, hL.rows]; rfl
end Go.Proofs.YtoiblknchcoecaaGreat

namespace Go.Proofs.YtoiblknchcoecaaGreat
open Go.RowKit
theorem cell_get {m : List Int} {C R i k : Nat} (hl : m.length = R * C) (hi : i < R) (hk : k < C) : m[i * C + k]? = some (cell m C i k) := by
 have := place_lt hk hi
 unfold cell
 simp [List.getD, List.getElem?_eq_getElem (show i * C + k < m.length by omega)]
theorem hi_zero {m : List Int} {C i : Nat} (h : nzB m C i = false) : hiB m C i = true := by unfold hiB; rw [h]; rfl
theorem hi_last {m : List Int} {C i : Nat} (h : nzB m C i = true) (h1 : ¬ lastP m C i < (pvR m C i : Nat)) : hiB m C i = false := by unfold hiB; rw [h, decide_eq_false h1]; rfl
theorem hi_neg {m : List Int} {C i : Nat} (h : nzB m C i = true) (h1 : ¬ 0 ≤ cell m C i (pvR m C i)) : hiB m C i = false := by unfold hiB; rw [h, decide_eq_false h1]; simp
theorem hi_ab {m : List Int} {C i k : Nat} (h : nzB m C i = true) (hk : k < i) (h1 : abI m C i k = false) : hiB m C i = false := by unfold hiB; rw [h, all_no hk h1]; simp
theorem hi_yes {m : List Int} {C i : Nat} (h1 : lastP m C i < (pvR m C i : Nat)) (h2 : 0 ≤ cell m C i (pvR m C i)) (h3 : ∀ k, k < i → abI m C i k = true) : hiB m C i = true := by unfold hiB; rw [decide_eq_true h1, decide_eq_true h2, all_yes h3]; simp
theorem ab_lo {m : List Int} {C i k : Nat} (h : ¬ 0 ≤ cell m C k (pvR m C i)) : abI m C i k = false := by unfold abI; rw [decide_eq_false h]; rfl
theorem ab_hi {m : List Int} {C i k : Nat} (h : ¬ cell m C k (pvR m C i) < cell m C i (pvR m C i)) : abI m C i k = false := by unfold abI; rw [decide_eq_false h]; simp
theorem ab_yes {m : List Int} {C i k : Nat} (h1 : 0 ≤ cell m C k (pvR m C i)) (h2 : cell m C k (pvR m C i) < cell m C i (pvR m C i)) : abI m C i k = true := by unfold abI; rw [decide_eq_true h1, decide_eq_true h2]; rfl
theorem lastP_no {m : List Int} {C i : Nat} (h : nzB m C i = false) : lastP m C (i + 1) = (C : Int) := by simp only [lastP]; rw [h]; rfl
theorem lastP_yes {m : List Int} {C i : Nat} (h : nzB m C i = true) : lastP m C (i + 1) = ((pvR m C i : Nat) : Int) := by simp only [lastP]; rw [h]; rfl
theorem lastP_rng {m : List Int} {C R : Nat} (hl : m.length = R * C) : ∀ {i : Nat}, i ≤ R → -1 ≤ lastP m C i ∧ lastP m C i ≤ (C : Int)
 | 0, _ => by simp only [lastP]; omega
 | i + 1, hi => by
  simp only [lastP]
  split
  ·next h =>
   have := (fz_row hl (show i < R by omega) (nzB_iff.1 h)).1
   unfold pvR; omega
  ·omega
theorem fcI_zero {m : List Int} {C R i : Nat} (hl : m.length = R * C) (hi : i < R) (h : nzB m C i = false) : fcI (rowL m C i) = -1 := by
 unfold fcI; rw [zero_row hl hi, h]; rfl
theorem iHermite_mat {S : Nat → Prop} (a : Option Addr) (n cp R C : Nat) (m : List Int) (w : World) (h : RdI w S a n cp m) (hl : m.length = R * C) (hnum : NumL m) (hR : R ≤ 24) (hC : C ≤ 24) :
  Calls Tryz.prog 106 #[.agg #[.int .i64 R, .int .i64 C, .slice a n cp]] w fun e w' => e = .returned (.bool (hermI m C R)) ∧ Grow w w' := by
 have hnl := h.len
 have hRC : R * C ≤ 24 * 24 := Nat.mul_le_mul hR hC
 obtain ⟨w2, hw2⟩ : ∃ w2, w2 = w.alloc (.cells #[.int .i64 (R : Int), .int .i64 (C : Int), .slice a n cp] 26) := ⟨_, rfl⟩
 have hG2 : Grow w w2 := by rw [hw2]; exact (Grow.refl w).alloc _ _
 have bM : Blk w2 w.heap.size #[.int .i64 (R : Int), .int .i64 (C : Int), .slice a n cp] 26 := by rw [hw2]; exact Blk.new w _ _
 have Hw2 := Lib.hid hw2; clear hw2
 have HB := Lib.hid (isMatB_ok hR hC hl hnum)
 replace h := h.grow hG2
 have hVM : VM w2 S (.agg #[.int .i64 (R : Int), .int .i64 (C : Int), .slice a n cp]) { rows := (R : Int), cols := (C : Int), cells := m } := ⟨a, n, cp, rfl, h, by unfold I64; simp only; omega, by unfold I64; simp only; omega⟩
 have hbd : bdM { rows := (R : Int), cols := (C : Int), cells := m } ≤ 2097152 := by unfold bdM; simp only; omega
 go_enter Tryz.func106, Tryz.ntmps106
 go_wp2_with fail
 rw [← Hw2.out]
 refine (isMatrix_c hVM hbd).mono ?_
 rintro e w3 ⟨rfl, hG3⟩
 rw [HB.out]
 have bM3 := bM.grow hG3
 have h3 := h.grow hG3
 have hG13 := hG2.trans hG3
 have Hl := Lib.hid hl; have Hnum := Lib.hid hnum; have Hnl := Lib.hid hnl
 have hn576 : n ≤ 576 := by omega
 clear hVM hbd hl hnum hnl hRC bM h
 go_wp2
 go_loopw [3, 4] (fun lv q wr => Grow w3 wr ∧ ∃ i : Nat, i ≤ R ∧ q = .int .i64 i ∧ lv = .int .i64 (lastP m C i) ∧ ∀ i', i' < i → hiB m C i' = true) (fun _ q _ => R - (intOf q).toNat)
 case atStart => exact ⟨Grow.refl _, 0, Nat.zero_le _, rfl, rfl, fun i' h0 => by omega⟩
 case round =>
  obtain ⟨hG, i, hi, rfl, rfl, hall⟩ := hrel
  have Hall := Lib.hid hall; clear hall
  have bMr := bM3.grow hG
  have hr := h3.grow hG
  have hG1r := hG13.trans hG
  obtain ⟨⟨a0, a1, a2⟩, -⟩ := bMr.three
  have hLr := lastP_rng Hl.out hi
  by_cases hiR : i < R
  ·go_wp2_with fail
   refine (rowRd_c a n cp C R i m _ hr Hl.out hiR hR hC).mono ?_
   rintro e w4 ⟨ra, rc, rfl, rr, hG4⟩
   go_wp2_with fail
   refine (firstCell_c ra C rc (rowL m C i) _ rr (by omega)).mono ?_
   rintro e _ ⟨rfl, rfl⟩
   have bM4 := bMr.grow hG4
   have hr4 := hr.grow hG4
   have hG14 := hG1r.trans hG4
   have hG34 := hG.trans hG4
   clear a0 a1 a2 bMr hr
   obtain ⟨⟨a0, a1, a2⟩, -⟩ := bM4.three
   have hltM := bM4.lt
   cases hz : nzB m C i with
   | false =>
    rw [fcI_zero Hl.out hiR hz]
    have HN := Lib.hid (show ∀ i', i' < i + 1 → hiB m C i' = true from fun i' h0 => by
     by_cases e : i' = i
     ·subst e; exact hi_zero hz
     ·exact Hall.out i' (by omega))
    have HL := Lib.hid (lastP_no hz)
    clear hz
    go_wp2
    go_roundw
    case rel => exact ⟨hG34, i + 1, by omega, by go_num, by rw [HL.out], HN.out⟩
    case measure => simp [intOf]; omega
   | true =>
    obtain ⟨hfC, hfne⟩ := fz_row Hl.out hiR (nzB_iff.1 hz)
    rw [fc_row Hl.out hiR (nzB_iff.1 hz)]
    rw [show fz (rowL m C i) = pvR m C i from rfl] at hfC hfne ⊢
    have Hz := Lib.hid hz; clear hz
    have Hno := Lib.hid (show hiB m C i = false → hermI m C R = false from fun h0 => all_no hiR h0)
    have HlN := Lib.hid (lastP_yes Hz.out)
    have HL1 := Lib.hid (fun h1 => hi_last Hz.out (C := C) (m := m) (i := i) h1)
    have HL2 := Lib.hid (fun h1 => hi_neg Hz.out (C := C) (m := m) (i := i) h1)
    have HL3 := Lib.hid (fun k (hk : k < i) h1 => hi_ab Hz.out (C := C) (m := m) (i := i) hk h1)
    have HL4 := Lib.hid (hi_yes (C := C) (m := m) (i := i))
    have HA1 := Lib.hid (fun k => ab_lo (m := m) (C := C) (i := i) (k := k))
    have HA2 := Lib.hid (fun k => ab_hi (m := m) (C := C) (i := i) (k := k))
    have HA3 := Lib.hid (fun k => ab_yes (m := m) (C := C) (i := i) (k := k))
    generalize hp : pvR m C i = p at *
    clear hp
    generalize hL : lastP m C i = L at *
    clear hL
    have hny := cell_num Hnum.out C i p
    have hgy := cell_get Hl.out hiR hfC
    generalize hy : cell m C i p = y at *
    clear hy
    by_cases h1 : L < (p : Int)
    ·have hGz := hG14
     go_wp2_with fail
     refine (at_c a n cp C i p _ (R : Int) y m _ hr4 rfl hgy (by omega) (by omega) (by omega) (by omega)).mono ?_
     rintro e w5 ⟨rfl, hG5⟩
     by_cases h2 : 0 ≤ y
     ·have bM5 := bM4.grow hG5
      have hr5 := hr4.grow hG5
      have hG15 := hG14.trans hG5
      have hG35 := hG34.trans hG5
      clear a0 a1 a2 bM4 hr4 hGz rr
      go_wp2
      go_loopw [6] (fun q u => Grow w5 u ∧ ∃ k : Nat, k ≤ i ∧ q = .int .i64 k ∧ ∀ k', k' < k → abI m C i k' = true) (fun q _ => i - (intOf q).toNat)
      case atStart => exact ⟨Grow.refl _, 0, Nat.zero_le _, rfl, fun k' h0 => by omega⟩
      case round =>
       obtain ⟨u, rfl⟩ : ∃ u, u = wr := ⟨_, rfl⟩
       obtain ⟨hGu, k, hk, rfl, hab⟩ := hrel
       have Hab := Lib.hid hab; clear hab
       have bMu := bM5.grow hGu
       have hru := hr5.grow hGu
       have hG1u := hG15.trans hGu
       by_cases hki : k < i
       ·have hkR : k < R := by omega
        have hnx := cell_num Hnum.out C k p
        have hgx := cell_get Hl.out hkR hfC
        have HA1' := Lib.hid (HA1.out k); have HA2' := Lib.hid (HA2.out k); have HA3' := Lib.hid (HA3.out k)
        generalize hx : cell m C k p = x at *
        clear hx
        by_cases h3 : 0 ≤ x
        ·have q1 : decide (x < 0) = false := decide_eq_false (by omega)
         go_wp2
         refine wp_region_segs (S := Grow u) [([0, 1, 2], some 3), ([4, 5, 6, 7, 8, 10, 11, 12], some 9), ([], some 13), ([14, 15], none)] P_mixed (by kernel_rfl) (fun _ _ _ _ _ h => h) (Grow.refl _).drew ?_
         show wpQuiet _ _ _ _ [_, _, _] _
         repeat (first | go_big_quiet_skip | (go_big_quiet_want; first | (apply quiet_load3 T_mat; rfl; rfl; exact (fun w' hG => bMu.grow hG); go_big_quiet_on; simp only [Act.put, List.setIfInBounds_toArray, List.set_cons_succ, List.set_cons_zero]) | (go_big_quiet_op; first | go_big_quiet_on | (refine ⟨_, (fun _ _ => rfl), ?_⟩; go_big_quiet_on))))
         refine wpQuiet_nil ?_
         refine seg_go rfl (fun K hK => ?_)
         go_wp2_with fail
         refine (at_c a n cp C k p _ (R : Int) x m _ (hru.grow (Grow.refl _).drew) rfl hgx (by omega) (by omega) (by omega) (by omega)).mono ?_
         rintro e w6 ⟨rfl, hG6⟩
         have hG06 := (Grow.refl u).drew.trans hG6
         go_wp2_with fail
         refine hK _ _ (hG06) ?_
         clear hK K
         show wpQuiet _ _ _ _ [_, _, _, _, _, _, _, _] _
         try (conv => arg 6; simp only [Act.put, List.setIfInBounds_toArray, List.set_cons_succ, List.set_cons_zero])
         repeat (first | go_big_quiet_skip | (go_big_quiet_want; first | (apply quiet_load3 T_mat; rfl; rfl; exact (fun w' hG => bMu.grow hG); go_big_quiet_on; simp only [Act.put, List.setIfInBounds_toArray, List.set_cons_succ, List.set_cons_zero]) | (go_big_quiet_op; first | go_big_quiet_on | (refine ⟨_, (fun _ _ => rfl), ?_⟩; go_big_quiet_on))))
         refine wpQuiet_nil ?_
         refine seg_go rfl (fun K hK => ?_)
         go_wp2_with fail
         refine (at_c a n cp C k p _ (R : Int) x m _ (hru.grow hG06) rfl hgx (by omega) (by omega) (by omega) (by omega)).mono ?_
         rintro e w7 ⟨rfl, hG7⟩
         have hG07 := hG06.trans hG7
         go_wp2_with fail
         refine hK _ _ (hG07) ?_
         clear hK K
         show wpQuiet _ _ _ _ [] _
         try (conv => arg 6; simp only [Act.put, List.setIfInBounds_toArray, List.set_cons_succ, List.set_cons_zero])
         refine wpQuiet_nil ?_
         refine seg_go rfl (fun K hK => ?_)
         go_wp2_with fail
         refine (at_c a n cp C i p _ (R : Int) y m _ (hru.grow hG07) rfl hgy (by omega) (by omega) (by omega) (by omega)).mono ?_
         rintro e w8 ⟨rfl, hG8⟩
         have hG08 := hG07.trans hG8
         go_wp2_with fail
         refine hK _ _ (hG08) ?_
         clear hK K
         show wpQuiet _ _ _ _ [_, _] _
         try (conv => arg 6; simp only [Act.put, List.setIfInBounds_toArray, List.set_cons_succ, List.set_cons_zero])
         repeat (first | go_big_quiet_skip | (go_big_quiet_want; first | (apply quiet_load3 T_mat; rfl; rfl; exact (fun w' hG => bMu.grow hG); go_big_quiet_on; simp only [Act.put, List.setIfInBounds_toArray, List.set_cons_succ, List.set_cons_zero]) | (go_big_quiet_op; first | go_big_quiet_on | (refine ⟨_, (fun _ _ => rfl), ?_⟩; go_big_quiet_on))))
         refine wpQuiet_nil ?_
         refine wpSegs_nil ?_
         by_cases h4 : x < y
         ·have HAn := Lib.hid (show ∀ k', k' < k + 1 → abI m C i k' = true from fun k' h0 => by
           by_cases e : k' = k
           ·subst e; exact HA3'.out h3 h4
           ·exact Hab.out k' (by omega))
          go_wp2
          go_roundw
          case rel => exact ⟨hGu.trans hG08, k + 1, by omega, by go_num, HAn.out⟩
          case measure => simp [intOf]; omega
         ·have HF := Lib.hid (Hno.out (HL3.out k hki (HA2'.out (by omega))))
          have hGz := hG1u.trans hG08
          go_wp2
          go_ret
          exact ⟨by rw [HF.out]; rfl, hGz⟩
        ·have q1 : decide (x < 0) = true := decide_eq_true (by omega)
         have HF := Lib.hid (Hno.out (HL3.out k hki (HA1'.out (by omega))))
         go_wp2
         refine wp_region_segs (S := Grow u) [([0, 1, 2], some 3), ([4, 5, 6, 7, 8, 10, 11, 12], some 9), ([], some 13), ([14, 15], none)] P_mixed (by kernel_rfl) (fun _ _ _ _ _ h => h) (Grow.refl _).drew ?_
         show wpQuiet _ _ _ _ [_, _, _] _
         repeat (first | go_big_quiet_skip | (go_big_quiet_want; first | (apply quiet_load3 T_mat; rfl; rfl; exact (fun w' hG => bMu.grow hG); go_big_quiet_on; simp only [Act.put, List.setIfInBounds_toArray, List.set_cons_succ, List.set_cons_zero]) | (go_big_quiet_op; first | go_big_quiet_on | (refine ⟨_, (fun _ _ => rfl), ?_⟩; go_big_quiet_on))))
         refine wpQuiet_nil ?_
         refine seg_go rfl (fun K hK => ?_)
         go_wp2_with fail
         refine (at_c a n cp C k p _ (R : Int) x m _ (hru.grow (Grow.refl _).drew) rfl hgx (by omega) (by omega) (by omega) (by omega)).mono ?_
         rintro e w6 ⟨rfl, hG6⟩
         have hG06 := (Grow.refl u).drew.trans hG6
         go_wp2_with fail
         refine hK _ _ (hG06) ?_
         clear hK K
         show wpQuiet _ _ _ _ [_, _, _, _, _, _, _, _] _
         try (conv => arg 6; simp only [Act.put, List.setIfInBounds_toArray, List.set_cons_succ, List.set_cons_zero])
         repeat (first | go_big_quiet_skip | (go_big_quiet_want; first | (apply quiet_load3 T_mat; rfl; rfl; exact (fun w' hG => bMu.grow hG); go_big_quiet_on; simp only [Act.put, List.setIfInBounds_toArray, List.set_cons_succ, List.set_cons_zero]) | (go_big_quiet_op; first | go_big_quiet_on | (refine ⟨_, (fun _ _ => rfl), ?_⟩; go_big_quiet_on))))
         refine wpQuiet_nil ?_
         refine seg_skip rfl (hG06) ?_
         show wpQuiet _ _ _ _ [] _
         try (conv => arg 6; simp only [Act.put, List.setIfInBounds_toArray, List.set_cons_succ, List.set_cons_zero])
         refine wpQuiet_nil ?_
         refine seg_skip rfl (hG06) ?_
         show wpQuiet _ _ _ _ [_, _] _
         try (conv => arg 6; simp only [Act.put, List.setIfInBounds_toArray, List.set_cons_succ, List.set_cons_zero])
         repeat (first | go_big_quiet_skip | (go_big_quiet_want; first | (apply quiet_load3 T_mat; rfl; rfl; exact (fun w' hG => bMu.grow hG); go_big_quiet_on; simp only [Act.put, List.setIfInBounds_toArray, List.set_cons_succ, List.set_cons_zero]) | (go_big_quiet_op; first | go_big_quiet_on | (refine ⟨_, (fun _ _ => rfl), ?_⟩; go_big_quiet_on))))
         refine wpQuiet_nil ?_
         refine wpSegs_nil ?_
         have hGz := hG1u.trans hG06
         go_wp2
         go_ret
         exact ⟨by rw [HF.out]; rfl, hGz⟩
       ·have hkE : k = i := by omega
        have HN := Lib.hid (show ∀ i', i' < i + 1 → hiB m C i' = true from fun i' h0 => by
         by_cases e : i' = i
         ·subst e; exact HL4.out h1 h2 (fun k' hk' => Hab.out k' (by omega))
         ·exact Hall.out i' (by omega))
        go_wp2
        go_roundw
        case rel => exact ⟨hG35.trans hGu, i + 1, by omega, by go_num, by rw [HlN.out], HN.out⟩
        case measure => simp [intOf]; omega
     ·have HF := Lib.hid (Hno.out (HL2.out (by omega)))
      have hGz := hG14.trans hG5
      go_wp2
      go_ret
      exact ⟨by rw [HF.out]; rfl, hGz⟩
    ·have HF := Lib.hid (Hno.out (HL1.out (by omega)))
     have hGz := hG14
     go_wp2
     go_ret
     exact ⟨by rw [HF.out]; rfl, hGz⟩
  ·have hiE : i = R := by omega
   have HE := Lib.hid (show hermI m C R = true from all_yes fun k hk => Hall.out k (by omega))
   go_wp2
   go_ret
   exact ⟨by rw [HE.out]; rfl, hG1r⟩
theorem iIsHermite_c {S : Nat → Prop} {v : Value} {m : Mat} {w : World} (h : VM w S v m) (hb : bdM m ≤ 2097152) :
  Calls Tryz.prog 106 #[v] w fun e w' => e = .returned (.bool (hermB m)) ∧ Grow w w' := by
 have hVM := h
 obtain ⟨a, n, c, rfl, h, ir, ic⟩ := h
 cases hB : isMatB m with
 | true =>
  obtain ⟨R, C, hmr, hmc, hR, hC, hl, hnum⟩ := isMatB_shape hB
  obtain ⟨mr, mc, cells⟩ := m
  simp only at hmr hmc hl hnum h
  subst hmr
  subst hmc
  rw [hermB_mat hB]
  exact iHermite_mat a n c R C cells w h hl hnum hR hC
 | false =>
  have HF := Lib.hid (hermB_no hB)
  have hG1 := (Grow.refl w).alloc #[.int .i64 m.rows, .int .i64 m.cols, .slice a n c] 26
  have HB := Lib.hid hB; clear hB
  go_enter Tryz.func106, Tryz.ntmps106
  go_wp2_with fail
  refine (isMatrix_c (hVM.grow hG1) hb).mono ?_
  rintro e w3 ⟨rfl, hG3⟩
  rw [HB.out]
  have hGz := hG1.trans hG3
  go_wp2
  go_ret
  exact ⟨by rw [HF.out]; rfl, hGz⟩
theorem iIsLattice_c {S : Nat → Prop} {v : Value} {m : Mat} {w : World} (h : VM w S v m) (hb : bdM m ≤ 2097152) :
  Calls Tryz.prog 85 #[v] w fun e w' => e = .returned (.bool (latB m)) ∧ Grow w w' := by
 have hVM := h
 obtain ⟨a, n, c, rfl, h, ir, ic⟩ := h
 have hG1 := (Grow.refl w).alloc #[.int .i64 m.rows, .int .i64 m.cols, .slice a n c] 26
 have bM := Blk.new w #[.int .i64 m.rows, .int .i64 m.cols, .slice a n c] 26
 cases hH : hermB m with
 | false =>
  have HF := Lib.hid (latB_no hH)
  have HH := Lib.hid hH; clear hH
  go_enter Tryz.func85, Tryz.ntmps85
  go_wp2_with fail
  refine (iIsHermite_c (hVM.grow hG1) hb).mono ?_
  rintro e w3 ⟨rfl, hG3⟩
  rw [HH.out]
  have hGz := hG1.trans hG3
  go_wp2
  go_ret
  exact ⟨by rw [HF.out]; rfl, hGz⟩
 | true =>
  have hH2 := hH
  unfold hermB at hH2
  rw [Bool.and_eq_true] at hH2
  obtain ⟨hB, hI⟩ := hH2
  obtain ⟨R, C, hmr, hmc, hR, hC, hl, hnum⟩ := isMatB_shape hB
  obtain ⟨mr, mc, cells⟩ := m
  simp only at hmr hmc hl hnum h
  subst hmr
  subst hmc
  have hLt := latB_mat hB hI
  have HH := Lib.hid hH; clear hH
  rw [hLt]
  have hzn := zeros_nil (m := cells) (C := C) (R := R)
  clear hLt
  go_enter Tryz.func85, Tryz.ntmps85
  go_wp2_with fail
  refine (iIsHermite_c (hVM.grow hG1) hb).mono ?_
  rintro e w3 ⟨rfl, hG3⟩
  rw [HH.out]
  have bM3 := bM.grow hG3
  obtain ⟨⟨a0, a1, a2⟩, -⟩ := bM3.three
  have h3 := (h.grow hG1).grow hG3
  clear ir ic
  go_wp2_with fail
  refine (splitRows_c a n c C R cells _ h3 hl hR hC).mono ?_
  rintro e w4 ⟨b1, b2, n1, n2, c1, c2, rfl, hP, hG4⟩
  have hlu := hP.ou.len
  cases hq : nzAll cells C R with
  | true =>
   have hn2 : n2 = 0 := by rw [hzn.2 hq] at hlu; simpa [natI, ints] using hlu.symm
   subst hn2
   have Hq := Lib.hid hq; clear hq hzn hlu
   go_wp2
   go_ret
   exact ⟨by rw [Hq.out]; rfl, (hG1.trans hG3).trans hG4⟩
  | false =>
   have hn2 : n2 ≠ 0 := fun e => by
    subst e
    have : ((List.range R).filter fun i => !nzB cells C i) = [] := by
     have : natI ((List.range R).filter fun i => !nzB cells C i) = [] := by simpa [ints] using hlu
     simpa [natI] using this
    rw [hzn.1 this] at hq; cases hq
   have q1 : ((n2 : Int) == 0) = false := by simp; omega
   have Hq := Lib.hid hq; clear hq hzn hlu
   go_wp2
   go_ret
   exact ⟨by rw [Hq.out]; rfl, (hG1.trans hG3).trans hG4⟩
end Go.Proofs.YtoiblknchcoecaaGreat

namespace Go.Proofs.YtoiblknchcoecaaGreat
open Go.RowKit
theorem tdiv_num {x y : Int} (hx : -400000000 ≤ x ∧ x ≤ 400000000) (_hy : y ≠ 0) : -400000000 ≤ x.tdiv y ∧ x.tdiv y ≤ 400000000 := by
 have h1 : (x.tdiv y).natAbs = x.natAbs / y.natAbs := Int.natAbs_tdiv ..
 have h2 := Nat.div_le_self x.natAbs y.natAbs
 omega
theorem coQ_num {b x : List Int} {C R i : Nat} (hx : NumL x) (hl : b.length = R * C) (hi : i < R) (hf : ∃ k, k < C ∧ cell b C i k ≠ 0) : -400000000 ≤ coQ b C i x ∧ coQ b C i x ≤ 400000000 :=
 tdiv_num (hx.getD _) (fz_row hl hi hf).2
theorem coN_end_yes {b x out : List Int} {C i : Nat} (h : zeroL x = true) : coN b C 0 i x out = some out := by simp only [coN]; rw [if_pos h]
theorem coN_end_no {b x out : List Int} {C i : Nat} (h : zeroL x = false) : coN b C 0 i x out = none := by simp only [coN]; rw [h]; rfl
theorem Pair.set2 {w0 w : World} {a : Option Addr} {na nu ca cu pb k : Nat} {xs ys : List Int} {v : Int} (h : Pair w0 w a (some ⟨pb, 0, none⟩) na nu ca cu xs ys) : Pair w0 (w.setCell ⟨pb, k, none⟩ (.int .i64 v)) a (some ⟨pb, 0, none⟩) na nu ca cu xs (ys.set k v) :=
 ⟨h.oa.keep ((Keep.refl (fun g => g ≠ pb) w).setCell (p := ⟨pb, k, none⟩) (fun _ e => e rfl) _) (fun q hq _ e => h.ne q hq (by rw [e]; rfl)), by have := h.ou.set k (.int .i64 v); rwa [← ints_set] at this, h.ne, h.la, h.lu⟩
theorem iCoordinates_c {S T : Nat → Prop} {lv vv : Value} {l : Mat} {v : List Int} {w : World} (h : VM w S lv l) (hb : bdM l ≤ 1048576) (hv : VI w T vv v) (hbv : bdI v ≤ 1048576) :
  Calls Tryz.prog 86 #[lv, vv] w fun e w' => ∃ x, e = .returned (.tuple #[x, .bool (coOk l v)]) ∧ OI w' (New w w') x (coL l v) ∧ Grow w w' := by
 have hVM := h
 obtain ⟨a, n, c, rfl, h, ir, ic⟩ := h
 obtain ⟨a2, n2, c2, rfl, hv⟩ := hv
 have hl2 := hv.len
 unfold bdI at hbv
 have hG1 := (Grow.refl w).alloc #[.int .i64 l.rows, .int .i64 l.cols, .slice a n c] 26
 have bM := Blk.new w #[.int .i64 l.rows, .int .i64 l.cols, .slice a n c] 26
 cases hok : latB l with
 | false =>
  have HF := Lib.hid (co_none (coR_no (coIn_lat (v := v) hok)))
  have HB := Lib.hid hok; clear hok
  go_enter Tryz.func86, Tryz.ntmps86
  go_wp2_with fail
  refine (iIsLattice_c (hVM.grow hG1) (by omega)).mono ?_
  rintro e w2 ⟨rfl, hG2⟩
  rw [HB.out]
  have hGz := hG1.trans hG2
  have hsu := hGz.size
  go_wp2
  go_ret2
  exact ⟨_, by rw [HF.out.1]; rfl, by rw [HF.out.2]; exact OI.empty (by simp) ⟨by (try simp at hsu); omega, by simp⟩, hGz.alloc _ _⟩
 | true =>
  obtain ⟨C, N, hL⟩ := lat_of hok
  obtain ⟨lr, lc, b⟩ := l
  obtain rfl : lr = (N : Int) := hL.rows
  obtain rfl : lc = (C : Int) := hL.cols
  have HL := Lib.hid hL
  have hC24 := hL.hC
  have hN24 := hL.hN
  have hbl : b.length = N * C := hL.len
  have hbn : NumL b := hL.num
  have hbf : ∀ i, i < N → ∃ k, k < C ∧ cell b C i k ≠ 0 := hL.full
  have HB := Lib.hid hok
  clear hok hL ir ic
  simp only at bM hG1 h
  go_enter Tryz.func86, Tryz.ntmps86
  go_wp2_with fail
  refine (iIsLattice_c (hVM.grow hG1) (by omega)).mono ?_
  rintro e w2 ⟨rfl, hG2⟩
  rw [HB.out]
  have hG12 := hG1.trans hG2
  have bM2 := bM.grow hG2
  have rB2 : RdI w2 (fun g => g < w.heap.size) a n c b := ((h.weak (T := fun g => g < w.heap.size) (fun g hg _ => hg)).grow hG12)
  have hltM : w.heap.size < w2.heap.size := bM2.lt
  obtain ⟨⟨m0, m1, m2⟩, -⟩ := bM2.three
  have Hbl := Lib.hid hbl; have Hbn := Lib.hid hbn; have Hbf := Lib.hid hbf
  clear hbl hbn hbf bM h
  by_cases hlen : (n2 : Int) = (C : Int)
  ·have q1 : ((n2 : Int) == (C : Int)) = true := by simp [hlen]
   have q2 : ((n2 : Int) != (C : Int)) = false := by simp [hlen]
   have hnC : n2 = C := by omega
   subst hnC
   clear hlen
   cases hnum : numsB v with
   | false =>
    have HF := Lib.hid (co_none (coR_no (coIn_num (l := { rows := (N : Int), cols := (n2 : Int), cells := b }) hnum)))
    have HN := Lib.hid hnum; clear hnum
    go_wp2_with fail
    refine (areNumbers_c a2 n2 c2 v _ (hv.grow hG12) (by omega)).mono ?_
    rintro e _ ⟨rfl, rfl⟩
    rw [HN.out]
    have hGz := hG12
    clear m0 m1 m2
    have hsu := hGz.size
    go_wp2
    go_ret2
    exact ⟨_, by rw [HF.out.1]; rfl, by rw [HF.out.2]; exact OI.empty (by simp) ⟨by (try simp at hsu); omega, by simp⟩, hGz.alloc _ _⟩
   | true =>
    have Hin := Lib.hid (coIn_yes (v := v) HB.out (by rw [hl2]) hnum)
    have hvN := numsB_L hnum
    have HN := Lib.hid hnum; clear hnum
    go_wp2_with fail
    refine (areNumbers_c a2 n2 c2 v _ (hv.grow hG12) (by omega)).mono ?_
    rintro e _ ⟨rfl, rfl⟩
    rw [HN.out]
    clear m0 m1 m2 q1 q2
    have hE : Own (w2.alloc (.cells #[] 3)) 3 1 (some ⟨w2.heap.size, 0, none⟩) 0 0 [] := Own.freshAt (cs := #[]) rfl (by unfold maxLen; omega) rfl
    go_wp2_with (at_builtin; refine wpList_app rfl (.tmp 30) (.tmp 31) _ rfl T_ints rfl hE rfl ((hv.row.grow hG12).grow ((Grow.refl _).alloc _ _)) (ints_one _) (by omega) (by unfold maxLen; omega) ?_; intro a5 c5 w5 hA5)
    have hG5 : Grow w2 w5 := hA5.grow ((Grow.refl _).alloc _ _) (fun g hg => by simp at hg; omega)
    have hl5 := hA5.lo (B := w2.heap.size) (by simp) (fun g hg => by simp at hg; omega)
    have hO5 : Own w5 3 1 a5 n2 c5 (ints v) := by simpa using hA5.own
    obtain ⟨w6, hw6⟩ : ∃ w6, w6 = w5.alloc (.cells #[] 3) := ⟨_, rfl⟩
    have hG56 : Grow w5 w6 := by rw [hw6]; exact (Grow.refl w5).alloc _ _
    have hO6 : Own w6 3 1 (some ⟨w5.heap.size, 0, none⟩) 0 0 (ints []) := by rw [hw6]; exact Own.freshAt (cs := #[]) (by simp) (by unfold maxLen; omega) rfl
    have hs5 := hG5.size
    have hP0 : Pair w2 w6 (some ⟨w5.heap.size, 0, none⟩) a5 0 n2 0 c5 [] v := ⟨hO6, hO5.grow hG56, fun q hq e => by have := hO5.lt e; simp at hq; omega, fun q hq => by simp at hq; omega, hl5⟩
    have Hw6 := Lib.hid hw6
    have bM6 := (bM2.grow hG5).grow hG56
    have rB6 := (rB2.grow hG5).grow hG56
    have hG16 := (hG12.trans hG5).trans hG56
    have hG26 := hG5.trans hG56
    obtain ⟨res, hres⟩ : ∃ res, res = coN b n2 N 0 v [] := ⟨_, rfl⟩
    have Hnone := Lib.hid (fun h0 : res = none => co_none (l := { rows := (N : Int), cols := (n2 : Int), cells := b }) (v := v) (by rw [coR_yes HL.out Hin.out, ← hres]; exact h0))
    have Hsome := Lib.hid (fun x (h0 : res = some x) => co_some (l := { rows := (N : Int), cols := (n2 : Int), cells := b }) (v := v) (x := x) (by rw [coR_yes HL.out Hin.out, ← hres]; exact h0))
    clear hA5 hE hw6 hO5 hO6 bM2 rB2 hl5
    have hs6 := hG26.size
    go_wp2
    rw [← Hw6.out]
    go_loopw [7, 8] (fun ov q wr => Keep (fun g => g < w2.heap.size) w6 wr ∧ ∃ (i ca : Nat) (aa : Option Addr) (x o : List Int), i ≤ N ∧ q = .int .i64 i ∧ ov = .slice aa i ca ∧ Pair w2 wr aa a5 i n2 ca c5 o x ∧ NumL x ∧ NumL o ∧ x.length = n2 ∧ coN b n2 (N - i) i x o = res) (fun _ q _ => N - (intOf q).toNat)
    case atStart => exact ⟨Keep.refl _ _, 0, 0, _, v, [], Nat.zero_le _, rfl, rfl, hP0, hvN, (fun x hx => by cases hx), hl2, hres.symm⟩
    case round =>
     clear hP0 hvN hres
     obtain ⟨wo, rfl⟩ : ∃ wo, wo = wr := ⟨_, rfl⟩
     obtain ⟨hK, i, ca, aa, x, o, hi, rfl, rfl, hP, hx, ho, hxl, hre⟩ := hrel
     have Hre := Lib.hid hre; clear hre
     have Hxl := Lib.hid hxl; clear hxl
     have bMr := bM6.keep hK hltM
     have rBr := rB6.keep hK (fun g _ hg => by omega)
     have hsr := (hG26.keep hK (fun g hg => hg)).size
     have hGr : Grow w wo := Grow.keep (S := fun g => g < w2.heap.size) hG16 hK (fun g hg => by omega)
     obtain ⟨⟨b0, b1, b2⟩, -⟩ := bMr.three
     by_cases hiN : i < N
     ·obtain ⟨hfC, hfne⟩ := fz_row Hbl.out hiN (Hbf.out i hiN)
      have Hfc := Lib.hid (fc_row Hbl.out hiN (Hbf.out i hiN))
      go_wp2_with fail
      refine (rowRd_c a n c n2 N i b _ rBr Hbl.out hiN hN24 hC24).mono ?_
      rintro e w7 ⟨a7, c7, rfl, rRow, hG7⟩
      go_wp2_with fail
      refine (firstCell_c a7 n2 c7 (rowL b n2 i) _ rRow (by omega)).mono ?_
      rintro e _ ⟨rfl, rfl⟩
      rw [Hfc.out]
      have hP7 := hP.grow hG7
      have HQ := Lib.hid (show coQ b n2 i x = (x.getD (fz (rowL b n2 i)) 0).tdiv (cell b n2 i (fz (rowL b n2 i))) from rfl)
      have HM := Lib.hid (show coM b n2 i x = (x.getD (fz (rowL b n2 i)) 0).tmod (cell b n2 i (fz (rowL b n2 i))) from rfl)
      have hqn := coQ_num hx Hbl.out hiN (Hbf.out i hiN)
      have hrat := rowL_at (k := fz (rowL b n2 i)) Hbl.out hiN hfC
      clear b0 b1 b2 Hfc hP
      generalize hp : fz (rowL b n2 i) = p at *
      clear hp
      obtain ⟨b1, off1, y, rfl, hy, -, -, hbw, hcy⟩ := rRow.at hfC
      obtain rfl : y = cell b n2 i p := by rw [hrat] at hy; exact (Option.some.inj hy).symm
      obtain ⟨pb, rfl⟩ : ∃ pb, a5 = some ⟨pb, 0, none⟩ := by
       cases a5 with
       | none => have := hP7.ou.nil rfl; have := hP7.ou.le; omega
       | some q => exact ⟨q.block, by rw [← (hP7.ou.block q rfl).1]⟩
      have hcx := hP7.ou.cell (ints_get (by rw [Hxl.out]; exact hfC) (rfl : x.getD p 0 = x.getD p 0))
      have hny := cell_num Hbn.out n2 i p
      have hnx := hx.getD p
      have hpb := hP7.ou.lt (g := pb) rfl
      have hpz : w2.heap.size ≤ pb := hP7.lu pb rfl
      have hle5 := hP7.ou.le
      clear hrat hy
      simp only at hcx
      generalize hvx : x.getD p 0 = vx at *
      generalize hvy : cell b n2 i p = vy at *
      clear hvx hvy
      have Hmod := Lib.hid (show coM b n2 i x ≠ 0 → res = none from fun h0 => by rw [← Hre.out, show N - i = (N - (i + 1)) + 1 by omega]; exact coN_mod h0)
      by_cases hmod : vx.tmod vy = 0
      ·have q5 : (vx.tmod vy != 0) = false := by simp [hmod]
       have HM0 := Lib.hid (show coM b n2 i x = 0 by rw [HM.out]; exact hmod)
       have hquo : vx.tdiv vy = coQ b n2 i x := HQ.out.symm
       have Hnq := Lib.hid (show nrmOk b n2 i x (coQ b n2 i x) = false → res = none from fun h0 => by rw [← Hre.out, show N - i = (N - (i + 1)) + 1 by omega]; exact coN_no HM0.out h0)
       have Hyq := Lib.hid (show nrmOk b n2 i x (coQ b n2 i x) = true → coN b n2 (N - (i + 1)) (i + 1) (updR (nrmV b n2 i x (coQ b n2 i x)) 0 n2 x) (o ++ [coQ b n2 i x]) = res from fun h0 => by rw [← Hre.out, show N - i = (N - (i + 1)) + 1 by omega, coN_yes HM0.out h0])
       clear hmod HM Hmod HQ
       generalize coQ b n2 i x = Q at *
       go_wp2
       refine wp_region_segs (S := Grow w7) [([0, 1, 2, 3, 4, 5, 6, 7, 8, 9], none)] P_mixed (by kernel_rfl) (fun _ _ _ _ _ h => h) (Grow.refl _).drew ?_
       show wpQuiet _ _ _ _ [_, _, _, _, _, _, _, _, _, _] _
       repeat (first | go_big_quiet_skip | (go_big_quiet_want; first | (apply quiet_load CT_int; rfl; rfl; exact (fun w' hG => hG.cell hcx); go_big_quiet_on; simp only [Act.put, List.setIfInBounds_toArray, List.set_cons_succ, List.set_cons_zero]) | (apply quiet_load CT_int; rfl; rfl; exact (fun w' hG => hG.cell hcy); go_big_quiet_on; simp only [Act.put, List.setIfInBounds_toArray, List.set_cons_succ, List.set_cons_zero]) | (go_big_quiet_op; first | go_big_quiet_on | (refine ⟨_, (fun _ _ => rfl), ?_⟩; go_big_quiet_on))))
       refine wpQuiet_nil ?_
       refine wpSegs_nil ?_
       have hcx1 := (Grow.refl w7).drew.cell hcx
       have hcy1 := (Grow.refl w7).drew.cell hcy
       go_wp2
       refine wp_region_segs (S := Grow w7.drew) [([0, 1, 2, 3, 4, 5, 6, 7, 8, 9], none)] P_mixed (by kernel_rfl) (fun _ _ _ _ _ h => h) (Grow.refl _).drew ?_
       show wpQuiet _ _ _ _ [_, _, _, _, _, _, _, _, _, _] _
       repeat (first | go_big_quiet_skip | (go_big_quiet_want; first | (apply quiet_load CT_int; rfl; rfl; exact (fun w' hG => hG.cell hcx1); go_big_quiet_on; simp only [Act.put, List.setIfInBounds_toArray, List.set_cons_succ, List.set_cons_zero]) | (apply quiet_load CT_int; rfl; rfl; exact (fun w' hG => hG.cell hcy1); go_big_quiet_on; simp only [Act.put, List.setIfInBounds_toArray, List.set_cons_succ, List.set_cons_zero]) | (go_big_quiet_op; first | go_big_quiet_on | (refine ⟨_, (fun _ _ => rfl), ?_⟩; go_big_quiet_on))))
       refine wpQuiet_nil ?_
       refine wpSegs_nil ?_
       obtain ⟨w8, hw8⟩ : ∃ w8, w8 = w7.drew.drew := ⟨_, rfl⟩
       rw [← hw8]
       have hG8 : Grow w7 w8 := by rw [hw8]; exact (Grow.refl _).drew.drew
       clear hw8 hcx hcy hcx1 hcy1 hnx hny hfne q5 hquo
       have hP8 := hP7.grow hG8
       have rR8 := rRow.grow hG8
       have hG18 : Grow w w8 := (hGr.trans hG7).trans hG8
       have hK8 : Keep (fun g => g < w2.heap.size) w6 w8 := hK.trans (hG7.trans hG8).any
       clear hP7 rRow
       go_wp2
       go_loopw [67] (fun q u => Keep (fun g => pb ≠ g) w8 u ∧ ∃ k : Nat, k ≤ n2 ∧ q = .int .i64 k ∧ Pair w2 u aa (some ⟨pb, 0, none⟩) i n2 ca c5 o (updR (nrmV b n2 i x Q) 0 k x) ∧ ∀ k', k' < k → isNumB (cell b n2 i k' * Q) = true ∧ isNumB (nrmV b n2 i x Q k') = true) (fun q _ => n2 - (intOf q).toNat)
       case atStart => exact ⟨Keep.refl _ _, 0, Nat.zero_le _, rfl, hP8, fun k' h0 => by omega⟩
       case round =>
        clear hP8
        obtain ⟨u, rfl⟩ : ∃ u, u = wr := ⟨_, rfl⟩
        obtain ⟨hK2, k, hk, rfl, hP, hall⟩ := hrel
        have Hall := Lib.hid hall; clear hall
        by_cases hlt : k < n2
        ·have rRu := rR8.keep hK2 (fun g _ h0 e => by omega)
         obtain ⟨b2, off2, y, hae, hy, -, -, hbw2, hcy⟩ := rRu.at hlt
         obtain ⟨rfl, rfl⟩ : b1 = b2 ∧ off1 = off2 := by simpa using hae
         obtain rfl : y = cell b n2 i k := by rw [rowL_at Hbl.out hiN hlt] at hy; exact (Option.some.inj hy).symm
         have hlen : (updR (nrmV b n2 i x Q) 0 k x).length = n2 := by rw [updR_len, Hxl.out]
         have hg1 : (updR (nrmV b n2 i x Q) 0 k x).getD k 0 = x.getD k 0 := by rw [updR_getD (by rw [Hxl.out]; omega), if_neg (by omega)]
         have hcx := hP.ou.cell (ints_get (by omega) hg1)
         have hfr := hP.ou.free k
         have hpb2 := hP.ou.lt (g := pb) rfl
         have hle2 := hP.ou.le
         have hsA := hx.getD k
         have hsB := cell_num Hbn.out n2 i k
         have hmul := mul_rng hsB hqn
         have hP9 : Pair w2 (u.setCell ⟨pb, k, none⟩ (.int .i64 (nrmV b n2 i x Q k))) aa (some ⟨pb, 0, none⟩) i n2 ca c5 o (updR (nrmV b n2 i x Q) 0 (k + 1) x) := by
          rw [show updR (nrmV b n2 i x Q) 0 (k + 1) x = (updR (nrmV b n2 i x Q) 0 k x).set k (nrmV b n2 i x Q k) by simp [updR]]
          exact hP.set2
         have hKs : Keep (fun g => pb ≠ g) u (u.setCell ⟨pb, k, none⟩ (.int .i64 (nrmV b n2 i x Q k))) := (Keep.refl _ u).setCell (p := ⟨pb, k, none⟩) (fun _ e => e rfl) _
         have Hv := Lib.hid (show nrmV b n2 i x Q k = x.getD k 0 - cell b n2 i k * Q from rfl)
         have Hno := Lib.hid (fun hno : ¬ (isNumB (cell b n2 i k * Q) = true ∧ isNumB (nrmV b n2 i x Q k) = true) => (show nrmOk b n2 i x Q = false by
          rw [Bool.eq_false_iff]; intro e
          exact hno (nrmOk_iff.1 e k hlt)))
         clear hP hg1 hlen hy hae
         simp only at hcx hfr
         have u5 : IntKind.i64.wrap (cell b n2 i k * Q) = cell b n2 i k * Q := IntWalk.i64_in _ (by omega)
         have u6 : wrap64 (cell b n2 i k * Q) = cell b n2 i k * Q := by unfold wrap64; omega
         have u7 : IntKind.i64.wrap (x.getD k 0 - cell b n2 i k * Q) = x.getD k 0 - cell b n2 i k * Q := IntWalk.i64_in _ (by omega)
         rw [Hv.out] at hP9 hKs Hno
         generalize hca : x.getD k 0 = ca1 at *
         generalize hcb : cell b n2 i k = cb at *
         have Hcb := Lib.hid hcb
         have Hca := Lib.hid hca
         clear hcb hca
         go_wp2_with fail
         refine (isNumber_c _ _).mono ?_
         rintro e _ ⟨rfl, rfl⟩
         have hGz : Grow w (u.setCell ⟨pb, k, none⟩ (.int .i64 (ca1 - cb * Q))) := Grow.keep (S := fun g => pb ≠ g) hG18 (hK2.trans hKs) (fun g hg e => by omega)
         cases hn1 : isNumB (cb * Q) with
         | false =>
          have HF := Lib.hid (Hnone.out (Hnq.out (Hno.out (fun h => by rw [hn1] at h; cases h.1))))
          have hsu := hGz.size
          go_wp2
          go_ret2
          exact ⟨_, by rw [HF.out.1]; rfl, by rw [HF.out.2]; exact OI.empty (by simp) ⟨by (try simp at hsu); omega, by simp⟩, hGz.alloc _ _⟩
         | true =>
          go_wp2_with fail
          refine (isNumber_c _ _).mono ?_
          rintro e _ ⟨rfl, rfl⟩
          cases hn2 : isNumB (ca1 - cb * Q) with
          | false =>
           have HF := Lib.hid (Hnone.out (Hnq.out (Hno.out (fun h => by rw [hn2] at h; cases h.2))))
           have hsu := hGz.size
           go_wp2
           go_ret2
           exact ⟨_, by rw [HF.out.1]; rfl, by rw [HF.out.2]; exact OI.empty (by simp) ⟨by (try simp at hsu); omega, by simp⟩, hGz.alloc _ _⟩
          | true =>
           have Hst := Lib.hid (show ∀ k', k' < k + 1 → isNumB (cell b n2 i k' * Q) = true ∧ isNumB (nrmV b n2 i x Q k') = true from fun k' hk' => by
            by_cases e : k' = k
            ·subst e; rw [Hv.out, Hcb.out]; exact ⟨hn1, hn2⟩
            ·exact Hall.out k' (by omega))
           go_wp2
           go_roundw
           case rel => exact ⟨hK2.trans hKs, k + 1, by omega, by go_num, hP9, Hst.out⟩
           case measure => simp [intOf]; omega
        ·have hkC : k = n2 := by omega
         have HT := Lib.hid (nrmOk_iff.2 (fun k' h0 => Hall.out k' (by omega)))
         have Hy2 := Lib.hid (Hyq.out HT.out)
         rw [hkC] at hP
         have hoQ := Lib.hid (show NumL (o ++ [Q]) from fun z hz => by
          rcases List.mem_append.1 hz with hz | hz
          ·exact ho z hz
          ·rw [List.mem_singleton.1 hz]; exact hqn)
         have hP3 := hP.grow ((Grow.refl u).alloc #[.int .i64 Q] 3)
         have hKu : Keep (fun g => g < w2.heap.size) w6 u := hK8.trans (hK2.mono fun g _ hg e => by omega)
         clear Hyq Hnq hkC hP
         go_wp2_with (at_builtin; refine wpList_app rfl (.tmp 96) (.tmp 98) _ rfl T_ints rfl hP3.oa rfl (Row.bAt6 (S := fun _ => True) 1 rfl (by unfold maxLen; omega) rfl (fun _ => trivial)) (by simp [Value.oneCell']) (by omega) (by unfold maxLen; omega) ?_; intro a9 c9 w9 hA9)
         have hsu := (hG26.keep hKu (fun g hg => hg)).size
         have hP9 : Pair w2 w9 a9 (some ⟨pb, 0, none⟩) (i + 1) n2 c9 c5 (o ++ [Q]) (updR (nrmV b n2 i x Q) 0 n2 x) := hP3.app (zs := [Q]) hA9 (by simp; omega)
         have hK9 : Keep (fun g => g < w2.heap.size) w6 w9 := (hKu.trans ((Grow.refl u).alloc #[.int .i64 Q] 3).any).trans (hA9.keep.mono fun q _ hq e => by have := hP3.la q e; omega)
         clear hA9 hP3
         go_wp2
         go_roundw
         case rel => exact ⟨hK9, i + 1, c9, a9, _, _, by omega, by go_num, by go_num, hP9, nrmV_num hx HT.out, hoQ.out, by rw [updR_len]; exact Hxl.out, Hy2.out⟩
         case measure => simp [intOf]; omega
      ·have q5 : (vx.tmod vy != 0) = true := by simpa using hmod
       have HF := Lib.hid (Hnone.out (Hmod.out (by rw [HM.out]; exact hmod)))
       go_wp2
       refine wp_region_segs (S := Grow w7) [([0, 1, 2, 3, 4, 5, 6, 7, 8, 9], none)] P_mixed (by kernel_rfl) (fun _ _ _ _ _ h => h) (Grow.refl _).drew ?_
       show wpQuiet _ _ _ _ [_, _, _, _, _, _, _, _, _, _] _
       repeat (first | go_big_quiet_skip | (go_big_quiet_want; first | (apply quiet_load CT_int; rfl; rfl; exact (fun w' hG => hG.cell hcx); go_big_quiet_on; simp only [Act.put, List.setIfInBounds_toArray, List.set_cons_succ, List.set_cons_zero]) | (apply quiet_load CT_int; rfl; rfl; exact (fun w' hG => hG.cell hcy); go_big_quiet_on; simp only [Act.put, List.setIfInBounds_toArray, List.set_cons_succ, List.set_cons_zero]) | (go_big_quiet_op; first | go_big_quiet_on | (refine ⟨_, (fun _ _ => rfl), ?_⟩; go_big_quiet_on))))
       refine wpQuiet_nil ?_
       refine wpSegs_nil ?_
       obtain ⟨w8, hw8⟩ : ∃ w8, w8 = w7.drew := ⟨_, rfl⟩
       rw [← hw8]
       have hGz : Grow w w8 := by rw [hw8]; exact (hGr.trans hG7).drew
       clear hw8
       have hsu := hGz.size
       go_wp2
       go_ret2
       exact ⟨_, by rw [HF.out.1]; rfl, by rw [HF.out.2]; exact OI.empty (by simp) ⟨by (try simp at hsu); omega, by simp⟩, hGz.alloc _ _⟩
     ·have hiE : i = N := by omega
      subst hiE
      have rO := hP.ou.rdI (S := fun _ => True) (fun _ _ => trivial) (num_rng hx)
      go_wp2_with fail
      refine (isZeroRow_c a5 n2 c5 x _ rO (by omega)).mono ?_
      rintro e _ ⟨rfl, rfl⟩
      cases hz : zeroL x with
      | true =>
       have Hend := Lib.hid (Hsome.out o (by rw [← Hre.out, Nat.sub_self]; exact coN_end_yes hz))
       clear hz
       go_wp2
       go_ret2
       exact ⟨_, by rw [Hend.out.1]; rfl, by rw [Hend.out.2]; exact ⟨aa, i, ca, rfl, hP.oa, num_rng ho, fun g hg => ⟨by have := hP.la g hg; have := hG12.size; omega, hP.oa.lt hg⟩⟩, hGr⟩
      | false =>
       have HF := Lib.hid (Hnone.out (by rw [← Hre.out, Nat.sub_self]; exact coN_end_no hz))
       have hGz := hGr
       clear hz
       have hsu := hGz.size
       go_wp2
       go_ret2
       exact ⟨_, by rw [HF.out.1]; rfl, by rw [HF.out.2]; exact OI.empty (by simp) ⟨by (try simp at hsu); omega, by simp⟩, hGz.alloc _ _⟩
  ·have q1 : ((n2 : Int) == (C : Int)) = false := by simp [hlen]
   have q2 : ((n2 : Int) != (C : Int)) = true := by simp [hlen]
   have HF := Lib.hid (co_none (coR_no (coIn_len (l := { rows := (N : Int), cols := (C : Int), cells := b }) (v := v) (by rw [hl2]; exact hlen))))
   have hGz := hG12
   have hsu := hGz.size
   go_wp2
   go_ret2
   exact ⟨_, by rw [HF.out.1]; rfl, by rw [HF.out.2]; exact OI.empty (by simp) ⟨by (try simp at hsu); omega, by simp⟩, hGz.alloc _ _⟩
end Go.Proofs.YtoiblknchcoecaaGreat

namespace Go.Proofs.YtoiblknchcoecaaGreat
open Go.RowKit
end Go.Proofs.YtoiblknchcoecaaGreat

namespace Go.Proofs.YtoiblknchcoecaaGreat
open Go.RowKit
end Go.Proofs.YtoiblknchcoecaaGreat
