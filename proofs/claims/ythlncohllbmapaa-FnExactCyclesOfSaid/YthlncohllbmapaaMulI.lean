/-
  MultiplyMatrices: the program's.
-/
import Derived.Test.YthlncohllbmapaaMulS
namespace Go.Proofs.Ythlncohllbmapaa
open Go.RowKit

set_option maxHeartbeats 4000000 in
set_option maxRecDepth 100000 in
theorem implMul_c {S T : Nat → Prop} {u v : Value} {A B : Mat} {w : World} (h : VM w S u A) (h' : VM w T v B) (hb : bdM A ≤ 2097152) (hb' : bdM B ≤ 2097152) :
    Calls Try.prog 32 #[u, v] w fun e w' => ∃ r, e = .returned (.tuple #[r, .bool (mulOk A B)]) ∧ OM w' (New w w') r (mulB A B) ∧ Grow w w' := by
  obtain ⟨aa, na, ca, rfl, hA, hAr, hAc⟩ := h
  obtain ⟨ab, nb, cb, rfl, hB, hBr, hBc⟩ := h'
  have vA : VM w S (.agg #[.int .i64 A.rows, .int .i64 A.cols, .slice aa na ca]) A := ⟨aa, na, ca, rfl, hA, hAr, hAc⟩
  have vB : VM w T (.agg #[.int .i64 B.rows, .int .i64 B.cols, .slice ab nb cb]) B := ⟨ab, nb, cb, rfl, hB, hBr, hBc⟩
  obtain ⟨w3, hw3⟩ : ∃ w3, w3 = (((w.alloc (.cells #[.int .i64 A.rows, .int .i64 A.cols, .slice aa na ca] 27)).alloc (.cells #[.int .i64 B.rows, .int .i64 B.cols, .slice ab nb cb] 27)).alloc (.cells #[.int .i64 0, .int .i64 0, .slice none 0 0] 27)) := ⟨_, rfl⟩
  have hG3 : Grow w w3 := by rw [hw3]; exact (((Grow.refl w).alloc _ _).alloc _ _).alloc _ _
  have hs3 : w3.heap.size = w.heap.size + 3 := by rw [hw3]; simp
  have bA : Blk w3 w.heap.size #[.int .i64 A.rows, .int .i64 A.cols, .slice aa na ca] 27 := by rw [hw3]; exact ((Blk.new w _ _).alloc _).alloc _
  have bB : Blk w3 (w.heap.size + 1) #[.int .i64 B.rows, .int .i64 B.cols, .slice ab nb cb] 27 := by rw [hw3]; exact (Blk.newAt _ _ _ (by simp)).alloc _
  have bZ : Blk w3 (w.heap.size + 2) #[.int .i64 0, .int .i64 0, .slice none 0 0] 27 := by rw [hw3]; exact Blk.newAt _ _ _ (by simp)
  obtain ⟨⟨a0, a1, a2⟩, -⟩ := bA.three
  rw [hw3] at a0 a1 a2
  have Hw3 := Lib.hid hw3; clear hw3
  cases hMA : isMatB A with
  | false =>
    have hF : mulFit A B = false := by unfold mulFit; rw [hMA]; rfl
    have he : mulOk A B = false := by unfold mulOk; rw [hF]; rfl
    have he2 : mulB A B = { rows := 0, cols := 0, cells := [] } := by unfold mulB; rw [hF]; rfl
    rw [he, he2]
    have HMA := Lib.hid hMA; clear hMA hF he he2
    go_enter Try.func32, Try.ntmps32
    go_wp2_with fail
    rw [← Hw3.out]
    refine (isMatrix_c (vA.grow hG3) hb).mono ?_
    rintro e w4 ⟨rfl, hG4⟩
    rw [HMA.out]
    have hG := hG3.trans hG4
    replace bZ := bZ.grow hG4
    obtain ⟨⟨z0, z1, z2⟩, g0, g1, g2⟩ := bZ.three
    go_wp2
    have hle : w.heap.size ≤ w.heap.size + 2 := by omega
    refine ret_cell_tmp T_mat rfl rfl rfl (((bZ.set 0 _).set 1 _).set 2 _) ⟨_, rfl, OM.zero, ?_⟩
    exact ((hG.setCell hle _).setCell hle _).setCell hle _
  | true =>
    have HMA := Lib.hid hMA; clear hMA
    cases hMB : isMatB B with
    | false =>
      have hF : mulFit A B = false := by unfold mulFit; rw [HMA.out, hMB]; rfl
      have he : mulOk A B = false := by unfold mulOk; rw [hF]; rfl
      have he2 : mulB A B = { rows := 0, cols := 0, cells := [] } := by unfold mulB; rw [hF]; rfl
      rw [he, he2]
      have HMB := Lib.hid hMB; clear hMB hF he he2
      go_enter Try.func32, Try.ntmps32
      go_wp2_with fail
      rw [← Hw3.out]
      refine (isMatrix_c (vA.grow hG3) hb).mono ?_
      rintro e w4 ⟨rfl, hG4⟩
      rw [HMA.out]
      clear a0 a1 a2
      obtain ⟨⟨b0, b1, b2⟩, -⟩ := (bB.grow hG4).three
      go_wp2_with fail
      refine (isMatrix_c ((vB.grow hG3).grow hG4) hb').mono ?_
      rintro e w5 ⟨rfl, hG5⟩
      rw [HMB.out]
      clear b0 b1 b2
      have hG := (hG3.trans hG4).trans hG5
      replace bA := (bA.grow hG4).grow hG5
      replace bB := (bB.grow hG4).grow hG5
      replace bZ := (bZ.grow hG4).grow hG5
      obtain ⟨⟨a0, a1, a2⟩, -⟩ := bA.three
      obtain ⟨⟨b0, b1, b2⟩, -⟩ := bB.three
      obtain ⟨⟨z0, z1, z2⟩, g0, g1, g2⟩ := bZ.three
      go_wp2
      have hle : w.heap.size ≤ w.heap.size + 2 := by omega
      refine ret_cell_tmp T_mat rfl rfl rfl (((bZ.set 0 _).set 1 _).set 2 _) ⟨_, rfl, OM.zero, ?_⟩
      exact ((hG.setCell hle _).setCell hle _).setCell hle _
    | true =>
      have HMB := Lib.hid hMB; clear hMB
      by_cases hcr : A.cols = B.rows
      · have hF : mulFit A B = true := by unfold mulFit; rw [HMA.out, HMB.out]; simp [hcr]
        have he : mulOk A B = isMatB (mulM A B) := by unfold mulOk; rw [hF]; rfl
        have he2 : mulB A B = okM (mulM A B) := by unfold mulB; rw [if_pos hF]
        rw [he, he2]
        have q1 : (A.cols == B.rows) = true := by simp [hcr]
        have q2 : (A.cols != B.rows) = false := by simp [hcr]
        have HF := Lib.hid hF; clear hF he he2 hcr
        go_enter Try.func32, Try.ntmps32
        go_wp2_with fail
        rw [← Hw3.out]
        refine (isMatrix_c (vA.grow hG3) hb).mono ?_
        rintro e w4 ⟨rfl, hG4⟩
        rw [HMA.out]
        clear a0 a1 a2
        obtain ⟨⟨b0, b1, b2⟩, -⟩ := (bB.grow hG4).three
        go_wp2_with fail
        refine (isMatrix_c ((vB.grow hG3).grow hG4) hb').mono ?_
        rintro e w5 ⟨rfl, hG5⟩
        rw [HMB.out]
        clear b0 b1 b2
        have hG := (hG3.trans hG4).trans hG5
        replace bA := (bA.grow hG4).grow hG5
        replace bB := (bB.grow hG4).grow hG5
        replace bZ := (bZ.grow hG4).grow hG5
        obtain ⟨⟨a0, a1, a2⟩, -⟩ := bA.three
        obtain ⟨⟨b0, b1, b2⟩, -⟩ := bB.three
        obtain ⟨⟨z0, z1, z2⟩, g0, g1, g2⟩ := bZ.three
        go_wp2_with fail
        have hx := mulM_rng HF.out
        have hbd := mulM_bd HF.out
        obtain ⟨R, N, C, r1, r2, r3, r4, hR, hN, hC, l1, l2, n1, n2⟩ := mulFit_num HF.out
        have hcells := Lib.hid (mulM_cells r1 r2 r4)
        rw [r1, r2] at bA
        rw [r1] at a0
        rw [r2] at a1
        rw [r3, r4] at bB
        rw [r3] at b0
        rw [r4] at b1
        simp only [r1, r2, r3, r4]
        refine (newMatrix_c R C _ (by omega) (by omega)).mono ?_
        rintro e w6 ⟨am, rfl, hO, hB6, hG6⟩
        have hs6 := hG6.size
        have hz5 := bZ.lt
        have hrA : RdI w6 (fun q => blk am ≠ some q) aa na ca A.cells := ((hA.grow hG).weak (T := fun b => b < w5.heap.size) (fun _ hb _ => hb)).grow hG6 |>.weak fun b _ hb e => by have := hB6 b e; omega
        have hrB : RdI w6 (fun q => blk am ≠ some q) ab nb cb B.cells := ((hB.grow hG).weak (T := fun b => b < w5.heap.size) (fun _ hb _ => hb)).grow hG6 |>.weak fun b _ hb e => by have := hB6 b e; omega
        have nA : blk am ≠ some w.heap.size := fun e => by have := hB6 _ e; omega
        have nB : blk am ≠ some (w.heap.size + 1) := fun e => by have := hB6 _ e; omega
        have nZ : blk am ≠ some (w.heap.size + 2) := fun e => by have := hB6 _ e; omega
        have nM : blk am ≠ some w6.heap.size := fun e => by have := hO.lt e; omega
        replace bA := bA.grow hG6
        replace bB := bB.grow hG6
        replace bZ := bZ.grow hG6
        have hRC : R * C ≤ 24 * 24 := Nat.mul_le_mul hR hC
        have bM0 := Blk.newAt w6 #[.int .i64 (R : Int), .int .i64 (C : Int), .slice am (R * C) (R * C)] 27 rfl
        have hGb : Grow w6 (w6.alloc (.cells #[.int .i64 (R : Int), .int .i64 (C : Int), .slice am (R * C) (R * C)] 27)) := (Grow.refl _).alloc _ _
        have hla := hA.len; have hlb := hB.len
        have Hx := Lib.hid l1; have Hy := Lib.hid l2; have Hl := Lib.hid hla; have Hl' := Lib.hid hlb
        clear l1 l2 hla hlb a0 a1 a2 b0 b1 b2 z0 z1 z2 g0 g1 g2 Hw3
        go_wp2
        go_loopw [7] (fun q wr => Keep (fun q => blk am ≠ some q) w6 wr ∧ Blk wr w6.heap.size #[.int .i64 (R : Int), .int .i64 (C : Int), .slice am (R * C) (R * C)] 27 ∧ ∃ i : Nat, i ≤ R ∧ q = .int .i64 i ∧ Own wr 3 1 am (R * C) (R * C) (ints (mRows A.cells B.cells N C R i))) (fun q _ => R - (intOf q).toNat)
        case atStart => exact ⟨hGb.any, bM0, 0, Nat.zero_le _, rfl, hO.grow hGb⟩
        case round =>
          clear bM0 hO hGb
          obtain ⟨hK, bM, i, hi, rfl, hO⟩ := hrel
          have bAr := bA.keep hK nA
          obtain ⟨⟨a0, a1, a2⟩, -⟩ := bAr.three
          by_cases hin : i < R
          · have bBr := bB.keep hK nB
            obtain ⟨⟨b0, b1, b2⟩, -⟩ := bBr.three
            obtain ⟨wo, rfl⟩ : ∃ wo : World, wo = wr := ⟨_, rfl⟩
            go_wp2
            go_loopw [8] (fun q wr => Keep (fun q => blk am ≠ some q) wo wr ∧ ∃ j : Nat, j ≤ C ∧ q = .int .i64 j ∧ Own wr 3 1 am (R * C) (R * C) (ints (mRow A.cells B.cells N C i j (mRows A.cells B.cells N C R i)))) (fun q _ => C - (intOf q).toNat)
            case atStart => exact ⟨Keep.refl _ _, 0, Nat.zero_le _, rfl, hO⟩
            case round =>
              clear hO a0 a1 a2 b0 b1 b2
              obtain ⟨hKi, j, hj, rfl, hO⟩ := hrel
              have bBi := bBr.keep hKi nB
              have bAi := bAr.keep hKi nA
              obtain ⟨⟨b0, b1, b2⟩, -⟩ := bBi.three
              obtain ⟨⟨a0, a1, a2⟩, -⟩ := bAi.three
              by_cases hjn : j < C
              · skip
                obtain ⟨wp, rfl⟩ : ∃ wp : World, wp = wr := ⟨_, rfl⟩
                go_wp2
                go_loopw [9, 10] (fun sv q wr => Grow wp wr ∧ ∃ k : Nat, k ≤ N ∧ q = .int .i64 k ∧ sv = .int .i64 (dotN A.cells B.cells N C i j k)) (fun _ q _ => N - (intOf q).toNat)
                case atStart => exact ⟨Grow.refl _, 0, Nat.zero_le _, rfl, rfl⟩
                case round =>
                  clear a0 a1 a2 b0 b1 b2
                  obtain ⟨hGi, k, hk, rfl, rfl⟩ := hrel
                  have hKw : Keep (fun q => blk am ≠ some q) w6 wp := hK.trans hKi
                  have bAk := bAi.grow hGi
                  have bBk := bBi.grow hGi
                  obtain ⟨⟨a0, a1, a2⟩, -⟩ := bAk.three
                  by_cases hkn : k < N
                  · have hNC := idx_lt hkn hjn
                    have hRN := idx_lt hin hkn
                    obtain ⟨x, hxx⟩ : ∃ x, A.cells[i * N + k]? = some x := ⟨_, List.getElem?_eq_getElem (by rw [Hx.out]; exact hRN)⟩
                    obtain ⟨y, hyy⟩ : ∃ y, B.cells[k * C + j]? = some y := ⟨_, List.getElem?_eq_getElem (by rw [Hy.out]; exact hNC)⟩
                    have hrAw := hrA.keep hKw fun _ _ h => h
                    have hrBw := hrB.keep hKw fun _ _ h => h
                    have hna : na ≤ 576 := by have := Nat.mul_le_mul hR hN; have := Hl.out; have := Hx.out; omega
                    have hnb : nb ≤ 576 := by have := Nat.mul_le_mul hN hC; have := Hl'.out; have := Hy.out; omega
                    have hxn := n1.getD (i * N + k); have hyn := n2.getD (k * C + j)
                    rw [getD_at hxx] at hxn
                    rw [getD_at hyy] at hyn
                    have hxy := mul_rng hxn hyn
                    have hd := dotN_rng n1 n2 N C i j k
                    have hdk := Lib.hid (show dotN A.cells B.cells N C i j (k + 1) = dotN A.cells B.cells N C i j k + x * y by conv => { lhs; unfold dotN }; rw [getD_at hxx, getD_at hyy])
                    have HX := Lib.hid hxx; have HY := Lib.hid hyy
                    clear hNC hRN hxx hyy hxn hyn
                    obtain ⟨p, hp⟩ : ∃ p, p = x * y := ⟨_, rfl⟩
                    rw [← hp] at hxy hdk
                    have u5 : IntKind.i64.wrap (x * y) = p := by rw [← hp]; exact IntWalk.i64_in _ (by omega)
                    clear hp
                    generalize dotN A.cells B.cells N C i j k = dv at *
                    have u6 : IntKind.i64.wrap (dv + p) = dv + p := IntWalk.i64_in _ (by omega)
                    go_wp2
                    refine wp_region_mix (S := Grow wr) [0, 1, 2, 3, 5, 6, 7] [4, 8, 9, 10, 11] P_mixed (by kernel_rfl) (fun _ _ _ _ _ h => h) (Grow.refl _).drew ?_
                    show wpQuiet _ _ _ (fun a' => wpListS _ _ _ _ [_, _, _, _, _] a' _) [_, _, _, _, _, _, _] _
                    repeat (first | go_big_quiet_skip | (go_big_quiet_want; first | (apply quiet_load3 T_mat; rfl; rfl; exact (fun w' hG => bAk.grow hG); go_big_quiet_on; simp only [Act.put, List.setIfInBounds_toArray, List.set_cons_succ, List.set_cons_zero]) | (apply quiet_load3 T_mat; rfl; rfl; exact (fun w' hG => bBk.grow hG); go_big_quiet_on; simp only [Act.put, List.setIfInBounds_toArray, List.set_cons_succ, List.set_cons_zero]) | (go_big_quiet_op; first | go_big_quiet_on | (refine ⟨_, (fun _ _ => rfl), ?_⟩; go_big_quiet_on))))
                    refine wpQuiet_nil ?_
                    show wpListS _ _ _ _ _ _ _
                    refine wpListS_step rfl (fun K hK => ?_)
                    go_wp2_with fail
                    refine (at_c aa na ca N i k (i * N + k) (R : Int) x A.cells _ ((hrAw.grow hGi).grow (Grow.refl _).drew) rfl HX.out (by omega) (by omega) (by omega) (by omega)).mono ?_
                    rintro e w8 ⟨rfl, hG8⟩
                    have hG08 : Grow wr w8 := (Grow.refl wr).drew.trans hG8
                    go_wp2_with fail
                    refine hK _ _ (hG08) ?_
                    clear hK K
                    refine wpListS_step rfl (fun K hK => ?_)
                    go_wp2_with fail
                    refine (at_c ab nb cb C k j (k * C + j) (N : Int) y B.cells _ ((hrBw.grow hGi).grow hG08) rfl HY.out (by omega) (by omega) (by omega) (by omega)).mono ?_
                    rintro e w9 ⟨rfl, hG9⟩
                    have hG09 := hG08.trans hG9
                    go_wp2_with fail
                    refine hK _ _ (hG09) ?_
                    clear hK K
                    refine wpListS_step rfl (fun K hK => ?_)
                    go_wp2_with fail
                    refine hK _ _ (hG09) ?_
                    clear hK K
                    refine wpListS_step rfl (fun K hK => ?_)
                    go_wp2_with fail
                    refine hK _ _ (hG09) ?_
                    clear hK K
                    refine wpListS_step rfl (fun K hK => ?_)
                    go_wp2_with fail
                    refine hK _ _ (hG09) ?_
                    clear hK K
                    refine wpListS_nil ?_
                    go_wp2
                    go_roundw
                    case rel => exact ⟨hGi.trans hG09, k + 1, by omega, by go_num, by rw [hdk.out]⟩
                    case measure => simp [intOf]; omega
                  · have hkN : k = N := by omega
                    subst hkN
                    have hd := dotN_rng n1 n2 k C i j k
                    have hdI : I64 (dotN A.cells B.cells k C i j k) := by unfold I64; omega
                    have bMr := (bM.keep hKi nM).grow hGi
                    obtain ⟨⟨m0, m1, m2⟩, -⟩ := bMr.three
                    obtain ⟨⟨b0, b1, b2⟩, -⟩ := bBk.three
                    unfold I64 at hdI
                    go_wp2_with fail
                    refine (set_c am _ _ _ i j (i * C + j) _ _ _ _ (hO.grow hGi) rfl (idx_lt hin hjn) (by omega) (by omega) (by omega) (by omega)).mono ?_
                    rintro e w8 ⟨rfl, hO8, hK8⟩
                    go_wp2
                    go_roundw
                    case rel => exact ⟨(hKi.trans hGi.any).trans hK8, j + 1, by omega, by go_num, hO8⟩
                    case measure => simp [intOf]; omega
              · have hjC : j = C := by omega
                subst hjC
                go_wp2
                go_roundw
                case rel => exact ⟨hK.trans hKi, bM.keep hKi nM, i + 1, by omega, by go_num, hO⟩
                case measure => simp [intOf]; omega
          · have hi' : i = R := by omega
            subst hi'
            have hz5 := bZ.lt
            have bZr := bZ.keep hK nZ
            obtain ⟨⟨m0, m1, m2⟩, -⟩ := bM.three
            have hGr : Grow w wr := (hG.trans hG6).keep hK fun q hq e => by have := hB6 q e; have := hG.size; omega
            have hsr := hGr.size
            have hOM : OM wr (fun g => w.heap.size + 2 < g ∧ g < wr.heap.size) (.agg #[.int .i64 (i : Int), .int .i64 (C : Int), .slice am (i * C) (i * C)]) (mulM A B) :=
              ⟨am, i * C, i * C, by simp only [mulM, r1, r4], by rw [hcells.out]; exact hO, hx, (fun g hg => ⟨by have := hB6 g hg; omega, hO.lt hg⟩), hAr, hBc⟩
            go_wp2_with fail
            refine (checked_c hOM (by omega)).mono ?_
            rintro e w7 ⟨m7, rfl, hO7, hG7⟩
            obtain ⟨a7, n7, c7, rfl, o7, x7, f7, i7, j7⟩ := hO7
            have hs7 := hG7.size
            replace bZr := bZr.grow hG7
            clear a0 a1 a2 m0 m1 m2
            obtain ⟨⟨z0, z1, z2⟩, g0, g1, g2⟩ := bZr.three
            go_wp2
            have hle : w.heap.size ≤ w.heap.size + 2 := by omega
            have hGa : Grow w w7 := hGr.trans hG7
            refine ret_cell_tmp T_mat rfl rfl rfl (((bZr.set 0 _).set 1 _).set 2 _) ⟨_, rfl, ⟨a7, n7, c7, rfl, ?_, x7, ?_, i7, j7⟩, ((hGa.setCell hle _).setCell hle _).setCell hle _⟩
            · exact o7.keep ((((Keep.refl (fun q => q ≠ w.heap.size + 2) w7).setCell (fun _ e => e rfl) _).setCell (fun _ e => e rfl) _).setCell (fun _ e => e rfl) _) (fun g hg _ e => by have := (f7 g hg).1; omega)
            · intro g hg
              have h1 := o7.lt hg
              have h2 := (f7 g hg).1
              exact ⟨by omega, by simpa using h1⟩
      · have hF : mulFit A B = false := by unfold mulFit; rw [HMA.out, HMB.out]; simp [hcr]
        have he : mulOk A B = false := by unfold mulOk; rw [hF]; rfl
        have he2 : mulB A B = { rows := 0, cols := 0, cells := [] } := by unfold mulB; rw [hF]; rfl
        rw [he, he2]
        have q1 : (A.cols == B.rows) = false := by simp [hcr]
        have q2 : (A.cols != B.rows) = true := by simp [hcr]
        clear hF he he2 hcr
        go_enter Try.func32, Try.ntmps32
        go_wp2_with fail
        rw [← Hw3.out]
        refine (isMatrix_c (vA.grow hG3) hb).mono ?_
        rintro e w4 ⟨rfl, hG4⟩
        rw [HMA.out]
        clear a0 a1 a2
        obtain ⟨⟨b0, b1, b2⟩, -⟩ := (bB.grow hG4).three
        go_wp2_with fail
        refine (isMatrix_c ((vB.grow hG3).grow hG4) hb').mono ?_
        rintro e w5 ⟨rfl, hG5⟩
        rw [HMB.out]
        clear b0 b1 b2
        have hG := (hG3.trans hG4).trans hG5
        replace bA := (bA.grow hG4).grow hG5
        replace bB := (bB.grow hG4).grow hG5
        replace bZ := (bZ.grow hG4).grow hG5
        obtain ⟨⟨a0, a1, a2⟩, -⟩ := bA.three
        obtain ⟨⟨b0, b1, b2⟩, -⟩ := bB.three
        obtain ⟨⟨z0, z1, z2⟩, g0, g1, g2⟩ := bZ.three
        go_wp2
        have hle : w.heap.size ≤ w.heap.size + 2 := by omega
        refine ret_cell_tmp T_mat rfl rfl rfl (((bZ.set 0 _).set 1 _).set 2 _) ⟨_, rfl, OM.zero, ?_⟩
        exact ((hG.setCell hle _).setCell hle _).setCell hle _
end Go.Proofs.Ythlncohllbmapaa
