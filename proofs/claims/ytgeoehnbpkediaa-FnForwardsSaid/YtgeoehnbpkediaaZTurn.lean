/-
  Rows and columns exchanged: the program's TransposeOf, the reference's l3Turn.
-/
import Derived.Test.YtgeoehnbpkediaaZBoundary
import Derived.Test.YtgeoehnbpkediaaZBase
import Derived.Test.YtgeoehnbpkediaaZHermF
import Derived.Test.YtgeoehnbpkediaaZHermS
import Derived.Test.YtgeoehnbpkediaaZHermY
set_option maxHeartbeats 8000000
set_option maxRecDepth 100000
namespace Go.Proofs.Ytgeoehnbpkediaa
open Go.RowKit
def trRow (m : List Int) (C R i : Nat) : Nat → List Int → List Int
 | 0, x => x
 | j + 1, x => (trRow m C R i j x).set (j * R + i) (cell m C i j)
def trAll (m : List Int) (C R : Nat) : Nat → List Int
 | 0 => List.replicate (C * R) 0
 | i + 1 => trRow m C R i C (trAll m C R i)
def turnM (m : Mat) : Mat := { rows := m.cols, cols := m.rows, cells := trAll m.cells m.cols.toNat m.rows.toNat m.rows.toNat }
theorem trRow_len (m : List Int) (C R i : Nat) : ∀ (j : Nat) (x : List Int), (trRow m C R i j x).length = x.length
 | 0, _ => rfl
 | j + 1, x => by simp [trRow, trRow_len m C R i j x]
theorem trAll_len (m : List Int) (C R : Nat) : ∀ i, (trAll m C R i).length = C * R
 | 0 => by simp [trAll]
 | i + 1 => by simp only [trAll]; rw [trRow_len, trAll_len m C R i]
theorem trRow_num {m : List Int} {C R i : Nat} (hm : NumL m) : ∀ {j : Nat} {x : List Int}, NumL x → NumL (trRow m C R i j x)
 | 0, _, h => h
 | j + 1, x, h => fun y hy => by
  rcases List.mem_or_eq_of_mem_set hy with h1 | h1
  ·exact trRow_num hm (j := j) h y h1
  ·subst h1; exact cell_num hm C i j
theorem trAll_num {m : List Int} {C R : Nat} (hm : NumL m) : ∀ {i : Nat}, NumL (trAll m C R i)
 | 0 => fun x hx => by rw [(List.mem_replicate.1 hx).2]; omega
 | i + 1 => by simp only [trAll]; exact trRow_num hm (trAll_num hm)
theorem turnM_eq {R C : Nat} {cells : List Int} : turnM { rows := (R : Int), cols := (C : Int), cells := cells } = { rows := (C : Int), cols := (R : Int), cells := trAll cells C R R } := rfl
theorem turnM_mat {m : Mat} (h : isMatB m = true) : isMatB (turnM m) = true := by
 obtain ⟨R, C, hmr, hmc, hR, hC, hl, hnum⟩ := isMatB_shape h
 obtain ⟨mr, mc, cells⟩ := m
 simp only at hmr hmc hl hnum
 subst hmr
 subst hmc
 rw [turnM_eq]
 exact isMatB_ok hC hR (trAll_len _ _ _ _) (trAll_num hnum)
theorem cell_get2 {m : List Int} {C R i k : Nat} (hl : m.length = R * C) (hi : i < R) (hk : k < C) : m[i * C + k]? = some (cell m C i k) := by
 have := place_lt hk hi
 unfold cell
 simp [List.getD, List.getElem?_eq_getElem (show i * C + k < m.length by omega)]
theorem iTranspose_mat {S : Nat → Prop} (a : Option Addr) (n cp R C : Nat) (m : List Int) (w : World) (h : RdI w S a n cp m) (hl : m.length = R * C) (hnum : NumL m) (hR : R ≤ 24) (hC : C ≤ 24) :
  Calls Try.prog 40 #[.agg #[.int .i64 R, .int .i64 C, .slice a n cp]] w fun e w' => ∃ r, e = .returned (.tuple #[r, .bool true]) ∧ OM w' (New w w') r { rows := (C : Int), cols := (R : Int), cells := trAll m C R R } ∧ Grow w w' := by
 have hnl := h.len
 have hRC : R * C ≤ 24 * 24 := Nat.mul_le_mul hR hC
 have hCR : C * R ≤ 24 * 24 := Nat.mul_le_mul hC hR
 obtain ⟨w2, hw2⟩ : ∃ w2, w2 = (w.alloc (.cells #[.int .i64 (R : Int), .int .i64 (C : Int), .slice a n cp] 28)).alloc (.cells #[.int .i64 0, .int .i64 0, .slice none 0 0] 28) := ⟨_, rfl⟩
 have hG2 : Grow w w2 := by rw [hw2]; exact ((Grow.refl w).alloc _ _).alloc _ _
 have bM : Blk w2 w.heap.size #[.int .i64 (R : Int), .int .i64 (C : Int), .slice a n cp] 28 := by rw [hw2]; exact (Blk.new w _ _).alloc _
 have bZ : Blk w2 (w.heap.size + 1) #[.int .i64 0, .int .i64 0, .slice none 0 0] 28 := by rw [hw2]; exact Blk.newAt _ _ _ (by simp)
 have Hw2 := Lib.hid hw2; clear hw2
 have HB := Lib.hid (isMatB_ok hR hC hl hnum)
 have rw0 : RdI w (fun g => g < w.heap.size) a n cp m := h.weak (fun g hg _ => hg)
 have h2 := h.grow hG2
 have hVM : VM w2 S (.agg #[.int .i64 (R : Int), .int .i64 (C : Int), .slice a n cp]) { rows := (R : Int), cols := (C : Int), cells := m } := ⟨a, n, cp, rfl, h2, by unfold I64; simp only; omega, by unfold I64; simp only; omega⟩
 have hbd : bdM { rows := (R : Int), cols := (C : Int), cells := m } ≤ 2097152 := by unfold bdM; simp only; omega
 go_enter Try.func40, Try.ntmps40
 go_wp2_with fail
 rw [← Hw2.out]
 refine (isMatrix_c hVM hbd).mono ?_
 rintro e w3 ⟨rfl, hG3⟩
 rw [HB.out]
 have bM3 := bM.grow hG3
 have bZ3 := bZ.grow hG3
 have hG13 := hG2.trans hG3
 have r3 := rw0.grow hG13
 obtain ⟨⟨a0, a1, a2⟩, -⟩ := bM3.three
 have hltM3 := bM3.lt
 have hltZ3 := bZ3.lt
 clear hVM hbd bM bZ h h2
 go_wp2_with fail
 refine (newMatrix_c C R _ (by omega) (by omega)).mono ?_
 rintro e w4 ⟨oa, rfl, hO, hlo, hG4⟩
 obtain ⟨w5, hw5⟩ : ∃ w5, w5 = w4.alloc (.cells #[.int .i64 (C : Int), .int .i64 (R : Int), .slice oa (C * R) (C * R)] 28) := ⟨_, rfl⟩
 have hG5 : Grow w4 w5 := by rw [hw5]; exact (Grow.refl w4).alloc _ _
 have bO5 : Blk w5 w4.heap.size #[.int .i64 (C : Int), .int .i64 (R : Int), .slice oa (C * R) (C * R)] 28 := by rw [hw5]; exact Blk.new w4 _ _
 have hO5 := hO.grow hG5
 have hltA : ∀ g, blk oa = some g → g < w4.heap.size := fun g hg => hO.lt hg
 have hs4 := hG4.size
 have bM5 := (bM3.grow hG4).grow hG5
 have bZ5 := (bZ3.grow hG4).grow hG5
 have r5 := (r3.grow hG4).grow hG5
 have hG15 := (hG13.trans hG4).trans hG5
 have Hw5 := Lib.hid hw5
 have Hl := Lib.hid hl; have Hnum := Lib.hid hnum
 have hn576 : n ≤ 576 := by omega
 clear hw5 a0 a1 a2 hO hl hnum bM3 bZ3
 go_wp2
 rw [← Hw5.out]
 go_loopw [5] (fun q wr => Keep (fun g => blk oa ≠ some g) w5 wr ∧ ∃ i : Nat, i ≤ R ∧ q = .int .i64 i ∧ Own wr 3 1 oa (C * R) (C * R) (ints (trAll m C R i))) (fun q _ => R - (intOf q).toNat)
 case atStart => exact ⟨Keep.refl _ _, 0, Nat.zero_le _, rfl, hO5⟩
 case round =>
  clear hO5
  obtain ⟨wo, rfl⟩ : ∃ wo, wo = wr := ⟨_, rfl⟩
  obtain ⟨hK, i, hi, rfl, hO⟩ := hrel
  have bMr := bM5.keep hK (fun e => by have := hlo _ e; omega)
  obtain ⟨⟨a0, a1, a2⟩, -⟩ := bMr.three
  by_cases hiR : i < R
  ·go_wp2
   go_loopw [6] (fun q u => Keep (fun g => blk oa ≠ some g) wo u ∧ ∃ j : Nat, j ≤ C ∧ q = .int .i64 j ∧ Own u 3 1 oa (C * R) (C * R) (ints (trRow m C R i j (trAll m C R i)))) (fun q _ => C - (intOf q).toNat)
   case atStart => exact ⟨Keep.refl _ _, 0, Nat.zero_le _, rfl, hO⟩
   case round =>
    clear hO
    obtain ⟨u, rfl⟩ : ∃ u, u = wr := ⟨_, rfl⟩
    obtain ⟨hK2, j, hj, rfl, hO⟩ := hrel
    have hK5u := hK.trans hK2
    have bMu := bM5.keep hK5u (fun e => by have := hlo _ e; omega)
    have bOu := bO5.keep hK5u (fun e => by have := hltA _ e; omega)
    have rMu := r5.keep hK5u (fun g _ hg e => by have := hlo _ e; omega)
    clear a0 a1 a2
    obtain ⟨⟨a0, a1, a2⟩, -⟩ := bMu.three
    by_cases hjC : j < C
    ·have hgc := cell_get2 Hl.out hiR hjC
     have hplace : j * R + i < C * R := place_lt hiR hjC
     have Hst := Lib.hid (show trRow m C R i (j + 1) (trAll m C R i) = (trRow m C R i j (trAll m C R i)).set (j * R + i) (cell m C i j) from rfl)
     generalize cell m C i j = x at *
     go_wp2
     refine wp_region_segsX (S := (Grow u)) (last := 7) [([0, 1, 2, 3, 4, 5], some 6), ([], some 7)] P_mixed (by kernel_rfl) (fun _ _ _ _ _ h => h) (Grow.refl _).drew ?_
     show wpQuiet _ _ _ _ [_, _, _, _, _, _] _
     repeat (first | go_big_quiet_skip | (go_big_quiet_want; first | (apply quiet_load3 T_mat; rfl; rfl; exact (fun w' hG => bOu.grow hG); go_big_quiet_on; simp only [Act.put, List.setIfInBounds_toArray, List.set_cons_succ, List.set_cons_zero]) | (apply quiet_load3 T_mat; rfl; rfl; exact (fun w' hG => bMu.grow hG); go_big_quiet_on; simp only [Act.put, List.setIfInBounds_toArray, List.set_cons_succ, List.set_cons_zero]) | (go_big_quiet_op; first | go_big_quiet_on | (refine ⟨_, (fun _ _ => rfl), ?_⟩; go_big_quiet_on))))
     refine wpQuiet_nil ?_
     refine seg_goX rfl (fun K hK => ?_)
     go_wp2_with fail
     refine (at_c a n cp C i j _ (R : Int) x m _ (rMu.grow (Grow.refl _).drew) rfl hgc (by omega) (by omega) (by omega) (by omega)).mono ?_
     rintro e w6 ⟨rfl, hG6⟩
     have hG06 := (Grow.refl u).drew.trans hG6
     go_wp2_with fail
     refine hK _ _ ((fun _ => hG06)) ?_
     clear hK K
     show wpQuiet _ _ _ _ [] _
     try (conv => arg 6; simp only [Act.put, List.setIfInBounds_toArray, List.set_cons_succ, List.set_cons_zero])
     refine wpQuiet_nil ?_
     refine seg_goX rfl (fun K hK => ?_)
     go_wp2_with fail
     refine (set_c oa (C * R) (C * R) R j i _ (C : Int) x _ _ (hO.grow hG06) rfl hplace (by omega) (by omega) (by omega) (by omega)).mono ?_
     rintro e w7 ⟨rfl, hO7, hK7⟩
     rw [← Hst.out] at hO7
     have hK27 : Keep (fun g => blk oa ≠ some g) wo w7 := (hK2.trans hG06.any).trans hK7
     go_wp2_with fail
     refine hK _ _ ((fun h => (h rfl).elim)) ?_
     clear hK K
     refine wpSegsX_nil ?_
     go_wp2
     go_roundw
     case rel => exact ⟨hK27, j + 1, by omega, by go_num, hO7⟩
     case measure => simp [intOf]; omega
    ·have hjE : j = C := by omega
     subst hjE
     go_wp2
     go_roundw
     case rel => exact ⟨hK5u, i + 1, by omega, by go_num, hO⟩
     case measure => simp [intOf]; omega
  ·have hiE : i = R := by omega
   subst hiE
   have bOr := bO5.keep hK (fun e => by have := hltA _ e; omega)
   have bZr := bZ5.keep hK (fun e => by have := hlo _ e; omega)
   have hGr : Grow w wo := Grow.keep (S := fun g => blk oa ≠ some g) hG15 hK (fun g hg e => by have := hlo _ e; omega)
   have rN := num_rng (trAll_num (C := C) (R := i) (i := i) Hnum.out)
   obtain ⟨⟨o0, o1, o2⟩, -⟩ := bOr.three
   obtain ⟨⟨z0, z1, z2⟩, g0, g1, g2⟩ := bZr.three
   have hltZ := bZr.lt
   have hltO := bOr.lt
   have hKs : Keep (fun q => q ≠ w.heap.size + 1) wo (((wo.setCell ⟨w.heap.size + 1, 0, none⟩ (.int .i64 (C : Int))).setCell ⟨w.heap.size + 1, 1, none⟩ (.int .i64 (i : Int))).setCell ⟨w.heap.size + 1, 2, none⟩ (.slice oa (C * i) (C * i))) :=
    (((Keep.refl _ wo).setCell (fun _ e => e rfl) _).setCell (fun _ e => e rfl) _).setCell (fun _ e => e rfl) _
   have hof := hO.keep hKs (fun g hg _ e => by have := hlo g hg; omega)
   have hGf := hGr.keep hKs (fun q hq => by omega)
   have hs13 := hG13.size
   go_wp2
   exact ret_cell_tmp T_mat rfl rfl rfl (((bZr.set 0 _).set 1 _).set 2 _) ⟨_, rfl, ⟨oa, C * i, C * i, rfl, hof, rN, (fun g hg => ⟨by have := hlo g hg; omega, hof.lt hg⟩), by show I64 (C : Int); unfold I64; omega, by show I64 (i : Int); unfold I64; omega⟩, hGf⟩
theorem iTranspose_c {S : Nat → Prop} {v : Value} {m : Mat} {w : World} (h : VM w S v m) (hB : isMatB m = true) :
  Calls Try.prog 40 #[v] w fun e w' => ∃ r, e = .returned (.tuple #[r, .bool true]) ∧ OM w' (New w w') r (turnM m) ∧ Grow w w' := by
 obtain ⟨a, n, c, rfl, h, -, -⟩ := h
 obtain ⟨R, C, hmr, hmc, hR, hC, hl, hnum⟩ := isMatB_shape hB
 obtain ⟨mr, mc, cells⟩ := m
 simp only at hmr hmc hl hnum h
 subst hmr
 subst hmc
 rw [turnM_eq]
 exact iTranspose_mat a n c R C cells w h hl hnum hR hC
end Go.Proofs.Ytgeoehnbpkediaa
