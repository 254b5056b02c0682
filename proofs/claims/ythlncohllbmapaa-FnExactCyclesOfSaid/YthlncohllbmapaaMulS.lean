/-
  MultiplyMatrices: the reference's.
-/
import Derived.Test.YthlncohllbmapaaMul
namespace Go.Proofs.Ythlncohllbmapaa
open Go.RowKit

theorem mulFit_num {A B : Mat} (h : mulFit A B = true) : ∃ R N C : Nat, A.rows = R ∧ A.cols = N ∧ B.rows = N ∧ B.cols = C ∧ R ≤ 24 ∧ N ≤ 24 ∧ C ≤ 24 ∧ A.cells.length = R * N ∧ B.cells.length = N * C ∧ NumL A.cells ∧ NumL B.cells := by
  unfold mulFit at h
  simp only [Bool.and_eq_true, beq_iff_eq] at h
  obtain ⟨⟨h1, h2⟩, h3⟩ := h
  obtain ⟨R, N, r1, r2, r3, r4, r5, r6⟩ := isMatB_shape h1
  obtain ⟨N', C, s1, s2, s3, s4, s5, s6⟩ := isMatB_shape h2
  have : N' = N := by omega
  subst this
  exact ⟨R, N', C, r1, r2, s1, s2, r3, r4, s4, r5, s5, r6, s6⟩
/-- The zero value. -/
def zeroM : Mat := { rows := 0, cols := 0, cells := [] }
theorem OM.zero {w : World} {F : Nat → Prop} : OM w F (.agg #[.int .i64 0, .int .i64 0, .slice none 0 0]) { rows := 0, cols := 0, cells := [] } :=
  ⟨none, 0, 0, rfl, Own.nilw, (fun x hx => by cases hx), (fun g hg => by simp at hg), by simp [I64], by simp [I64]⟩

theorem mulM_cells {A B : Mat} {R N C : Nat} (hr : A.rows = R) (hn : A.cols = N) (hc : B.cols = C) : (mulM A B).cells = mRows A.cells B.cells N C R R := by
  unfold mulM; simp only [hr, hn, hc, Int.toNat_natCast]
theorem mulM_rng {A B : Mat} (hF : mulFit A B = true) : ∀ x ∈ (mulM A B).cells, I64 x := by
  obtain ⟨R, N, C, r1, r2, r3, r4, h1, h2, h3, _, _, n1, n2⟩ := mulFit_num hF
  rw [mulM_cells r1 r2 r4]; exact mRows_rng n1 n2 h2 C R R
theorem mulM_bd {A B : Mat} (hF : mulFit A B = true) : bdM (mulM A B) ≤ 576 := by
  obtain ⟨R, N, C, r1, r2, r3, r4, h1, h2, h3, _, _, n1, n2⟩ := mulFit_num hF
  unfold bdM; rw [mulM_cells r1 r2 r4, mRows_len]
  exact Nat.mul_le_mul h1 h3
theorem l3Mul_v {S T : Nat → Prop} {u v : Value} {A B : Mat} {w : World} (h : VM w S u A) (h' : VM w T v B) (hF : mulFit A B = true) :
    Calls Try.prog 62 #[u, v] w fun e w' => ∃ r, e = .returned r ∧ OM w' (New w w') r (mulM A B) ∧ Grow w w' := by
  obtain ⟨aa, na, ca, rfl, hA, hAr, hAc⟩ := h
  obtain ⟨ab, nb, cb, rfl, hB, hBr, hBc⟩ := h'
  have hx := mulM_rng hF
  obtain ⟨R, N, C, r1, r2, r3, r4, h1, h2, h3, l1, l2, n1, n2⟩ := mulFit_num hF
  rw [r1, r2, r3, r4]
  refine (l3Mul_c aa ab na ca nb cb R N C _ _ w hA hB h1 h2 h3 l1 l2 n1 n2).mono ?_
  rintro e w' ⟨am, rfl, hO, hB5, hG⟩
  refine ⟨_, rfl, ⟨am, R * C, R * C, ?_, ?_, hx, fun g hg => ⟨hB5 g hg, hO.lt hg⟩, hAr, hBc⟩, hG⟩
  · simp only [mulM, r1, r4]
  · rw [mulM_cells r1 r2 r4]; exact hO
set_option maxHeartbeats 4000000 in
set_option maxRecDepth 100000 in
theorem specMul_c {S T : Nat → Prop} {u v : Value} {A B : Mat} {w : World} (h : VM w S u A) (h' : VM w T v B) (hb : bdM A ≤ 2097152) (hb' : bdM B ≤ 2097152) :
    Calls Try.prog 30 #[u, v] w fun e w' => ∃ r, e = .returned (.tuple #[r, .bool (mulOk A B)]) ∧ OM w' (New w w') r (mulB A B) ∧ Grow w w' := by
  obtain ⟨aa, na, ca, rfl, hA, hAr, hAc⟩ := h
  obtain ⟨ab, nb, cb, rfl, hB, hBr, hBc⟩ := h'
  have vA : VM w S (.agg #[.int .i64 A.rows, .int .i64 A.cols, .slice aa na ca]) A := ⟨aa, na, ca, rfl, hA, hAr, hAc⟩
  have vB : VM w T (.agg #[.int .i64 B.rows, .int .i64 B.cols, .slice ab nb cb]) B := ⟨ab, nb, cb, rfl, hB, hBr, hBc⟩
  obtain ⟨w3, hw3⟩ : ∃ w3, w3 = (((w.alloc (.cells #[.int .i64 A.rows, .int .i64 A.cols, .slice aa na ca] 27)).alloc (.cells #[.int .i64 B.rows, .int .i64 B.cols, .slice ab nb cb] 27)).alloc (.cells #[.int .i64 0, .int .i64 0, .slice none 0 0] 27)) := ⟨_, rfl⟩
  have hG3 : Grow w w3 := by rw [hw3]; exact (((Grow.refl w).alloc _ _).alloc _ _).alloc _ _
  have hs3 : w3.heap.size = w.heap.size + 3 := by rw [hw3]; simp
  have bA : Blk w3 w.heap.size #[.int .i64 A.rows, .int .i64 A.cols, .slice aa na ca] 27 := by rw [hw3]; exact ((Blk.new w _ _).alloc _).alloc _
  have bB : Blk w3 (w.heap.size + 1) #[.int .i64 B.rows, .int .i64 B.cols, .slice ab nb cb] 27 := by rw [hw3]; exact (Blk.newAt _ _ _ (by simp)).alloc _
  have bZ : Blk w3 (w.heap.size + 2) #[.int .i64 0, .int .i64 0, .slice none 0 0] 27 := by rw [hw3]; exact Blk.newAt _ _ _ (by simp)
  obtain ⟨⟨a0, a1, a2⟩, -⟩ := bA.three
  rw [hw3] at a0 a1 a2
  have Hw3 := Lib.hid hw3; clear hw3
  cases hMA : isMatB A with
  | false =>
    have hF : mulFit A B = false := by unfold mulFit; rw [hMA]; rfl
    have he : mulOk A B = false := by unfold mulOk; rw [hF]; rfl
    have he2 : mulB A B = { rows := 0, cols := 0, cells := [] } := by unfold mulB; rw [hF]; rfl
    rw [he, he2]
    have HMA := Lib.hid hMA; clear hMA hF he he2
    go_enter Try.func30, Try.ntmps30
    go_wp2_with fail
    rw [← Hw3.out]
    refine (sIsMatrix_c (vA.grow hG3) hb).mono ?_
    rintro e w4 ⟨rfl, hG4⟩
    rw [HMA.out]
    have hG := hG3.trans hG4
    replace bZ := bZ.grow hG4
    obtain ⟨⟨z0, z1, z2⟩, g0, g1, g2⟩ := bZ.three
    go_wp2
    have hle : w.heap.size ≤ w.heap.size + 2 := by omega
    refine ret_cell_tmp T_mat rfl rfl rfl (((bZ.set 0 _).set 1 _).set 2 _) ⟨_, rfl, OM.zero, ?_⟩
    exact ((hG.setCell hle _).setCell hle _).setCell hle _
  | true =>
    have HMA := Lib.hid hMA; clear hMA
    cases hMB : isMatB B with
    | false =>
      have hF : mulFit A B = false := by unfold mulFit; rw [HMA.out, hMB]; rfl
      have he : mulOk A B = false := by unfold mulOk; rw [hF]; rfl
      have he2 : mulB A B = { rows := 0, cols := 0, cells := [] } := by unfold mulB; rw [hF]; rfl
      rw [he, he2]
      have HMB := Lib.hid hMB; clear hMB hF he he2
      go_enter Try.func30, Try.ntmps30
      go_wp2_with fail
      rw [← Hw3.out]
      refine (sIsMatrix_c (vA.grow hG3) hb).mono ?_
      rintro e w4 ⟨rfl, hG4⟩
      rw [HMA.out]
      clear a0 a1 a2
      obtain ⟨⟨b0, b1, b2⟩, -⟩ := (bB.grow hG4).three
      go_wp2_with fail
      refine (sIsMatrix_c ((vB.grow hG3).grow hG4) hb').mono ?_
      rintro e w5 ⟨rfl, hG5⟩
      rw [HMB.out]
      clear b0 b1 b2
      have hG := (hG3.trans hG4).trans hG5
      replace bA := (bA.grow hG4).grow hG5
      replace bB := (bB.grow hG4).grow hG5
      replace bZ := (bZ.grow hG4).grow hG5
      obtain ⟨⟨a0, a1, a2⟩, -⟩ := bA.three
      obtain ⟨⟨b0, b1, b2⟩, -⟩ := bB.three
      obtain ⟨⟨z0, z1, z2⟩, g0, g1, g2⟩ := bZ.three
      go_wp2
      have hle : w.heap.size ≤ w.heap.size + 2 := by omega
      refine ret_cell_tmp T_mat rfl rfl rfl (((bZ.set 0 _).set 1 _).set 2 _) ⟨_, rfl, OM.zero, ?_⟩
      exact ((hG.setCell hle _).setCell hle _).setCell hle _
    | true =>
      have HMB := Lib.hid hMB; clear hMB
      by_cases hcr : A.cols = B.rows
      · have hF : mulFit A B = true := by unfold mulFit; rw [HMA.out, HMB.out]; simp [hcr]
        have he : mulOk A B = isMatB (mulM A B) := by unfold mulOk; rw [hF]; rfl
        have he2 : mulB A B = okM (mulM A B) := by unfold mulB; rw [if_pos hF]
        rw [he, he2]
        have q1 : (A.cols == B.rows) = true := by simp [hcr]
        have q2 : (A.cols != B.rows) = false := by simp [hcr]
        have HF := Lib.hid hF; clear hF he he2 hcr
        go_enter Try.func30, Try.ntmps30
        go_wp2_with fail
        rw [← Hw3.out]
        refine (sIsMatrix_c (vA.grow hG3) hb).mono ?_
        rintro e w4 ⟨rfl, hG4⟩
        rw [HMA.out]
        clear a0 a1 a2
        obtain ⟨⟨b0, b1, b2⟩, -⟩ := (bB.grow hG4).three
        go_wp2_with fail
        refine (sIsMatrix_c ((vB.grow hG3).grow hG4) hb').mono ?_
        rintro e w5 ⟨rfl, hG5⟩
        rw [HMB.out]
        clear b0 b1 b2
        have hG := (hG3.trans hG4).trans hG5
        replace bA := (bA.grow hG4).grow hG5
        replace bB := (bB.grow hG4).grow hG5
        replace bZ := (bZ.grow hG4).grow hG5
        obtain ⟨⟨a0, a1, a2⟩, -⟩ := bA.three
        obtain ⟨⟨b0, b1, b2⟩, -⟩ := bB.three
        obtain ⟨⟨z0, z1, z2⟩, g0, g1, g2⟩ := bZ.three
        go_wp2_with fail
        refine (l3Mul_v ((vA.grow hG)) ((vB.grow hG)) HF.out).mono ?_
        rintro e w6 ⟨m6, rfl, hO6, hG6⟩
        go_wp2_with fail
        refine (l3Done_c hO6 (by have := mulM_bd HF.out; omega)).mono ?_
        rintro e w7 ⟨m7, rfl, hO7, hG7⟩
        obtain ⟨a7, n7, c7, rfl, o7, x7, f7, i7, j7⟩ := hO7
        have hs5 := hG.size
        have hs6 := hG6.size
        have hs7 := hG7.size
        have hz5 := bZ.lt
        replace bZ := ((bZ.grow hG6).grow hG7).alloc (.cells #[.int .i64 (okM (mulM A B)).rows, .int .i64 (okM (mulM A B)).cols, .slice a7 n7 c7] 27)
        clear a0 a1 a2 b0 b1 b2 z0 z1 z2 g0 g1 g2
        obtain ⟨⟨z0, z1, z2⟩, g0, g1, g2⟩ := bZ.three
        go_wp2
        have hle : w.heap.size ≤ w.heap.size + 2 := by omega
        have hGa : Grow w (w7.alloc (.cells #[.int .i64 (okM (mulM A B)).rows, .int .i64 (okM (mulM A B)).cols, .slice a7 n7 c7] 27)) := ((hG.trans hG6).trans hG7).alloc _ _
        have hK : Keep (fun q => q ≠ w.heap.size + 2) w7 (w7.alloc (.cells #[.int .i64 (okM (mulM A B)).rows, .int .i64 (okM (mulM A B)).cols, .slice a7 n7 c7] 27)) := ((Grow.refl w7).alloc _ _).any
        refine ret_cell_tmp T_mat rfl rfl rfl (((bZ.set 0 _).set 1 _).set 2 _) ⟨_, rfl, ⟨a7, n7, c7, rfl, ?_, x7, ?_, i7, j7⟩, ((hGa.setCell hle _).setCell hle _).setCell hle _⟩
        · exact o7.keep (((hK.setCell (fun _ e => e rfl) _).setCell (fun _ e => e rfl) _).setCell (fun _ e => e rfl) _) (fun g hg _ e => by have := (f7 g hg).1; omega)
        · intro g hg
          have h1 := o7.lt hg
          have h2 := (f7 g hg).1
          exact ⟨by omega, by simp; omega⟩
      · have hF : mulFit A B = false := by unfold mulFit; rw [HMA.out, HMB.out]; simp [hcr]
        have he : mulOk A B = false := by unfold mulOk; rw [hF]; rfl
        have he2 : mulB A B = { rows := 0, cols := 0, cells := [] } := by unfold mulB; rw [hF]; rfl
        rw [he, he2]
        have q1 : (A.cols == B.rows) = false := by simp [hcr]
        have q2 : (A.cols != B.rows) = true := by simp [hcr]
        clear hF he he2 hcr
        go_enter Try.func30, Try.ntmps30
        go_wp2_with fail
        rw [← Hw3.out]
        refine (sIsMatrix_c (vA.grow hG3) hb).mono ?_
        rintro e w4 ⟨rfl, hG4⟩
        rw [HMA.out]
        clear a0 a1 a2
        obtain ⟨⟨b0, b1, b2⟩, -⟩ := (bB.grow hG4).three
        go_wp2_with fail
        refine (sIsMatrix_c ((vB.grow hG3).grow hG4) hb').mono ?_
        rintro e w5 ⟨rfl, hG5⟩
        rw [HMB.out]
        clear b0 b1 b2
        have hG := (hG3.trans hG4).trans hG5
        replace bA := (bA.grow hG4).grow hG5
        replace bB := (bB.grow hG4).grow hG5
        replace bZ := (bZ.grow hG4).grow hG5
        obtain ⟨⟨a0, a1, a2⟩, -⟩ := bA.three
        obtain ⟨⟨b0, b1, b2⟩, -⟩ := bB.three
        obtain ⟨⟨z0, z1, z2⟩, g0, g1, g2⟩ := bZ.three
        go_wp2
        have hle : w.heap.size ≤ w.heap.size + 2 := by omega
        refine ret_cell_tmp T_mat rfl rfl rfl (((bZ.set 0 _).set 1 _).set 2 _) ⟨_, rfl, OM.zero, ?_⟩
        exact ((hG.setCell hle _).setCell hle _).setCell hle _
end Go.Proofs.Ythlncohllbmapaa
