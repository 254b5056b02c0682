/-
  StackRows: the program's and the reference's.
-/
import Derived.Test.YtoiblknchcoecaaGreatZBasI
import Derived.Laws.CopyOwn
import Derived.Test.YtoiblknchcoecaaGreatZKer
import Derived.Test.YtoiblknchcoecaaGreatZBase
import Derived.Test.YtoiblknchcoecaaGreatZInts
import Derived.Test.YtoiblknchcoecaaGreatZOrder
import Derived.Test.YtoiblknchcoecaaGreatZNorm
set_option maxHeartbeats 8000000
set_option maxRecDepth 100000
namespace Go.Proofs.YtoiblknchcoecaaGreat
open Go.RowKit
def stackOk (a b : Mat) : Bool := isMatB a && (isMatB b && (decide (a.cols = b.cols) && decide (a.rows + b.rows ≤ 24)))
def stackB (a b : Mat) : Mat := if stackOk a b = true then { rows := a.rows + b.rows, cols := a.cols, cells := a.cells ++ b.cells } else { rows := 0, cols := 0, cells := [] }
theorem stack_no {a b : Mat} (h : stackOk a b = false) : stackOk a b = false ∧ stackB a b = { rows := 0, cols := 0, cells := [] } := by
 unfold stackB; rw [h]; exact ⟨rfl, rfl⟩
theorem stack_yes {a b : Mat} (h : stackOk a b = true) : stackOk a b = true ∧ stackB a b = { rows := a.rows + b.rows, cols := a.cols, cells := a.cells ++ b.cells } := by
 unfold stackB; rw [h]; exact ⟨rfl, rfl⟩
theorem stackB_mat (a b : Mat) : isMatB (stackB a b) = true := by
 cases h : stackOk a b with
 | false => rw [(stack_no h).2]; rfl
 | true =>
  rw [(stack_yes h).2]
  unfold stackOk at h
  simp only [Bool.and_eq_true, decide_eq_true_eq] at h
  obtain ⟨h1, h2, h3, h4⟩ := h
  obtain ⟨R, C, e1, e2, hR, hC, hl, hn⟩ := isMatB_shape h1
  obtain ⟨R', C', e1', e2', hR', hC', hl', hn'⟩ := isMatB_shape h2
  have hcc : C = C' := by omega
  subst hcc
  have := isMatB_ok (R := R + R') (C := C) (l := a.cells ++ b.cells) (by omega) hC (by rw [List.length_append, hl, hl', Nat.add_mul]) (fun x hx => (List.mem_append.1 hx).elim (hn x) (hn' x))
  rw [e1, e1', e2]
  simpa using this
theorem isMatB_bd {m : Mat} (h : isMatB m = true) : bdM m ≤ 576 := by
 obtain ⟨R, C, _, _, hR, hC, hl, _⟩ := isMatB_shape h
 have hRC : R * C ≤ 24 * 24 := Nat.mul_le_mul hR hC
 unfold bdM; omega
theorem iStackRows_c {S T : Nat → Prop} {u v : Value} {A B : Mat} {w : World} (hA : VM w S u A) (hB : VM w T v B) (hbA : bdM A ≤ 1048576) (hbB : bdM B ≤ 1048576) :
  Calls Tryz.prog 26 #[u, v] w fun e w' => ∃ r, e = .returned (.tuple #[r, .bool (stackOk A B)]) ∧ OM w' (New w w') r (stackB A B) ∧ Grow w w' := by
 have hVA := hA; have hVB := hB
 obtain ⟨aa, an, ac, rfl, hA, ia1, ia2⟩ := hA
 obtain ⟨ba, bn, bc, rfl, hB, ib1, ib2⟩ := hB
 obtain ⟨w3, hw3⟩ : ∃ w3, w3 = ((w.alloc (.cells #[.int .i64 A.rows, .int .i64 A.cols, .slice aa an ac] 26)).alloc (.cells #[.int .i64 B.rows, .int .i64 B.cols, .slice ba bn bc] 26)).alloc (.cells #[.int .i64 0, .int .i64 0, .slice none 0 0] 26) := ⟨_, rfl⟩
 have hG3 : Grow w w3 := by rw [hw3]; exact (((Grow.refl w).alloc _ _).alloc _ _).alloc _ _
 have bA : Blk w3 w.heap.size #[.int .i64 A.rows, .int .i64 A.cols, .slice aa an ac] 26 := by rw [hw3]; exact ((Blk.new w _ _).alloc _).alloc _
 have bB : Blk w3 (w.heap.size + 1) #[.int .i64 B.rows, .int .i64 B.cols, .slice ba bn bc] 26 := by rw [hw3]; exact (Blk.newAt _ _ _ (by simp)).alloc _
 have bR : Blk w3 (w.heap.size + 1 + 1) #[.int .i64 0, .int .i64 0, .slice none 0 0] 26 := by rw [hw3]; exact Blk.newAt _ _ _ (by simp)
 have Hw3 := Lib.hid hw3; clear hw3
 go_enter Tryz.func26, Tryz.ntmps26
 go_wp2_with fail
 rw [← Hw3.out]
 refine (isMatrix_c (hVA.grow hG3) (by omega)).mono ?_
 rintro e w4 ⟨rfl, hG4⟩
 have bB4 := bB.grow hG4
 obtain ⟨⟨y0, y1, y2⟩, -⟩ := bB4.three
 have hltB := bB4.lt
 cases hmA : isMatB A with
 | false =>
  have Hz := Lib.hid (stack_no (a := A) (b := B) (by unfold stackOk; rw [hmA]; rfl))
  have bRz := bR.grow hG4
  have hGz := hG3.trans hG4
  clear hmA
  obtain ⟨⟨z0, z1, z2⟩, g0, g1, g2⟩ := bRz.three
  have hltz := bRz.lt
  have h1 : w.heap.size ≤ w.heap.size + 1 + 1 := by omega
  go_wp2
  exact ret_cell_tmp T_mat rfl rfl rfl (((bRz.set 0 _).set 1 _).set 2 _) ⟨_, by rw [Hz.out.1]; rfl, by rw [Hz.out.2]; exact OM.zero, ((hGz.setCell h1 _).setCell h1 _).setCell h1 _⟩
 | true =>
  have HmA := Lib.hid hmA
  go_wp2_with fail
  refine (isMatrix_c ((hVB.grow hG3).grow hG4) (by omega)).mono ?_
  rintro e w5 ⟨rfl, hG5⟩
  have bRz := (bR.grow hG4).grow hG5
  have hGz := (hG3.trans hG4).trans hG5
  have bA5 := (bA.grow hG4).grow hG5
  have bB5 := bB4.grow hG5
  clear y0 y1 y2 hltB
  cases hmB : isMatB B with
  | false =>
   have Hz := Lib.hid (stack_no (a := A) (b := B) (by unfold stackOk; rw [hmB]; simp))
   clear hmB hmA
   obtain ⟨⟨z0, z1, z2⟩, g0, g1, g2⟩ := bRz.three
   have hltz := bRz.lt
   have h1 : w.heap.size ≤ w.heap.size + 1 + 1 := by omega
   go_wp2
   exact ret_cell_tmp T_mat rfl rfl rfl (((bRz.set 0 _).set 1 _).set 2 _) ⟨_, by rw [Hz.out.1]; rfl, by rw [Hz.out.2]; exact OM.zero, ((hGz.setCell h1 _).setCell h1 _).setCell h1 _⟩
  | true =>
   obtain ⟨R, C, e1, e2, hR, hC, hl, hn⟩ := isMatB_shape hmA
   obtain ⟨R', C', e1', e2', hR', hC', hl', hn'⟩ := isMatB_shape hmB
   have hcs := stack_no (a := A) (b := B)
   have hys := stack_yes (a := A) (b := B)
   have hok : stackOk A B = (decide ((C : Int) = C') && decide ((R : Int) + R' ≤ 24)) := by unfold stackOk; rw [hmA, hmB, e2, e2', e1, e1']; rfl
   have Hno := Lib.hid hcs; have Hys := Lib.hid hys; have Hok := Lib.hid hok
   clear hcs hys hok hmA hmB HmA
   obtain ⟨ar, acc, ca⟩ := A
   obtain ⟨br, bcc, cb⟩ := B
   simp only at e1 e2 e1' e2' hl hl' hn hn' hA hB
   subst e1; subst e2; subst e1'; subst e2'
   obtain ⟨⟨x0, x1, x2⟩, -⟩ := bA5.three
   obtain ⟨⟨y0, y1, y2⟩, -⟩ := bB5.three
   have hltA := bA5.lt
   have hltB := bB5.lt
   have Hl := Lib.hid hl; have Hl' := Lib.hid hl'; clear hl hl'
   by_cases hcol : C = C'
   ·subst hcol
    have q2 : ((C : Int) != (C : Int)) = false := by simp
    by_cases hsum : 24 < R + R'
    ·have Hz := Lib.hid (Hno.out (by rw [Hok.out, decide_eq_true rfl, decide_eq_false (by omega)]; rfl))
     obtain ⟨⟨z0, z1, z2⟩, g0, g1, g2⟩ := bRz.three
     have hltz := bRz.lt
     have h1 : w.heap.size ≤ w.heap.size + 1 + 1 := by omega
     go_wp2
     exact ret_cell_tmp T_mat rfl rfl rfl (((bRz.set 0 _).set 1 _).set 2 _) ⟨_, by rw [Hz.out.1]; rfl, by rw [Hz.out.2]; exact OM.zero, ((hGz.setCell h1 _).setCell h1 _).setCell h1 _⟩
    ·have Hy := Lib.hid (Hys.out (by rw [Hok.out, decide_eq_true rfl, decide_eq_true (by omega)]; rfl))
     have rA := ((hA.grow hG3).grow hG4).grow hG5
     have rB := ((hB.grow hG3).grow hG4).grow hG5
     have hla := rA.len
     have hlb := rB.len
     have hRC : R * C ≤ 24 * 24 := Nat.mul_le_mul hR hC
     have hRC' : R' * C ≤ 24 * 24 := Nat.mul_le_mul hR' hC
     have han : an ≤ 576 := by have := Hl.out; omega
     have hbn : bn ≤ 576 := by have := Hl'.out; omega
     have hltR := bRz.lt
     have hs5 := hGz.size
     clear hla hlb hRC hRC'
     simp only at x0 x1 x2 y0 y1 y2
     go_wp2
     refine wp_region_segs (S := (Keep (fun q => q ≠ w.heap.size + 1 + 1) w5)) [([0, 1, 2, 3, 4, 5, 6, 8, 9, 11, 12], some 7), ([], some 10), ([], some 13), ([], some 14), ([], some 15), ([16], none)] P_mixed (by kernel_rfl) (fun _ _ _ _ _ h => h) (Keep.refl _ _).drew ?_
     show wpQuiet _ _ _ _ [_, _, _, _, _, _, _, _, _, _, _] _
     repeat (first | go_big_quiet_skip | (go_big_quiet_want; first | (apply quiet_load CT_int; rfl; rfl; exact (fun w' hG => hG.cell (by simp <;> omega) x0); go_big_quiet_on; simp only [Act.put, List.setIfInBounds_toArray, List.set_cons_succ, List.set_cons_zero]) | (apply quiet_load CT_int; rfl; rfl; exact (fun w' hG => hG.cell (by simp <;> omega) y0); go_big_quiet_on; simp only [Act.put, List.setIfInBounds_toArray, List.set_cons_succ, List.set_cons_zero]) | (apply quiet_load CT_int; rfl; rfl; exact (fun w' hG => hG.cell (by simp <;> omega) x1); go_big_quiet_on; simp only [Act.put, List.setIfInBounds_toArray, List.set_cons_succ, List.set_cons_zero]) | (apply quiet_load CT_ints; rfl; rfl; exact (fun w' hG => hG.cell (by simp <;> omega) x2); go_big_quiet_on; simp only [Act.put, List.setIfInBounds_toArray, List.set_cons_succ, List.set_cons_zero]) | (apply quiet_load CT_ints; rfl; rfl; exact (fun w' hG => hG.cell (by simp <;> omega) y2); go_big_quiet_on; simp only [Act.put, List.setIfInBounds_toArray, List.set_cons_succ, List.set_cons_zero]) | (go_big_quiet_op; first | go_big_quiet_on | (refine ⟨_, (fun _ _ => rfl), ?_⟩; go_big_quiet_on))))
     refine wpQuiet_nil ?_
     obtain ⟨w7, hw7⟩ : ∃ w7, w7 = w5.drew := ⟨_, rfl⟩
     rw [← hw7]
     have hG7 : Grow w5 w7 := by rw [hw7]; exact (Grow.refl _).drew
     clear hw7
     refine seg_go rfl (fun K hK => ?_)
     refine par_built0 rfl T_ints ?_
     have hE : Own (w7.alloc (.cells #[] 3)) 3 1 (some ⟨w7.heap.size, 0, none⟩) 0 0 [] := Own.freshAt rfl (by unfold maxLen; omega) rfl
     refine hK _ _ ((hG7.alloc _ _).mono fun _ _ _ => trivial) ?_
     clear hK K
     show wpQuiet _ _ _ _ [] _
     try (conv => arg 6; simp only [Act.put, List.setIfInBounds_toArray, List.set_cons_succ, List.set_cons_zero])
     refine wpQuiet_nil ?_
     refine seg_go rfl (fun K hK => ?_)
     refine op_app rfl T_ints rfl hE rfl (rA.row.grow (hG7.alloc _ _)) (ints_one _) (by omega) (by unfold maxLen; omega) ?_
     intro a8 c8 w8 hA8
     have hs7 := hG7.size
     have hG8 : Grow w5 w8 := hA8.grow (hG7.alloc _ _) (fun g hg => by simp at hg; omega)
     have hl8 := hA8.lo (B := w5.heap.size) (by simp; omega) (fun g hg => by simp at hg; omega)
     have hO8 : Own w8 3 1 a8 an c8 (ints ca) := by have := hA8.own; simpa [ints] using this
     have hs8 := hG8.size
     clear hA8 hE
     rw [Nat.zero_add]
     refine hK _ _ (hG8.mono fun _ _ _ => trivial) ?_
     clear hK K
     show wpQuiet _ _ _ _ [] _
     try (conv => arg 6; simp only [Act.put, List.setIfInBounds_toArray, List.set_cons_succ, List.set_cons_zero])
     refine wpQuiet_nil ?_
     refine seg_go rfl (fun K hK => ?_)
     refine op_app rfl T_ints rfl hO8 rfl (rB.row.grow hG8) (ints_one _) (by omega) (by unfold maxLen; omega) ?_
     intro a9 c9 w9 hA9
     have hG9 : Grow w5 w9 := hA9.grow hG8 (fun g hg => hl8 g hg)
     have hl9 := hA9.lo (B := w5.heap.size) (by omega) hl8
     have hO9 : Own w9 3 1 a9 (an + bn) c9 (ints (ca ++ cb)) := by have := hA9.own; simpa [ints] using this
     have bR9 := bRz.grow hG9
     clear hA9 hO8
     refine hK _ _ (hG9.mono fun _ _ _ => trivial) ?_
     clear hK K
     show wpQuiet _ _ _ _ [] _
     try (conv => arg 6; simp only [Act.put, List.setIfInBounds_toArray, List.set_cons_succ, List.set_cons_zero])
     refine wpQuiet_nil ?_
     refine seg_go rfl (fun K hK => ?_)
     go_wp2_with fail
     refine hK _ _ ((hG9.mono fun _ _ _ => trivial)) ?_
     clear hK K
     show wpQuiet _ _ _ _ [] _
     try (conv => arg 6; simp only [Act.put, List.setIfInBounds_toArray, List.set_cons_succ, List.set_cons_zero])
     refine wpQuiet_nil ?_
     refine seg_go rfl (fun K hK => ?_)
     obtain ⟨⟨z0, z1, z2⟩, f0, f1, f2⟩ := bR9.three
     go_wp2_with fail
     have hK9 : Keep (fun q => q ≠ w.heap.size + 1 + 1) w9 (((w9.setCell ⟨w.heap.size + 1 + 1, 0, none⟩ (.int .i64 ((R : Int) + R'))).setCell ⟨w.heap.size + 1 + 1, 1, none⟩ (.int .i64 (C : Int))).setCell ⟨w.heap.size + 1 + 1, 2, none⟩ (.slice a9 (an + bn) c9)) :=
      (((Keep.refl _ w9).setCell (fun _ e => e rfl) _).setCell (fun _ e => e rfl) _).setCell (fun _ e => e rfl) _
     refine hK _ _ (((hG9.mono fun _ _ _ => trivial).trans hK9)) ?_
     clear hK K
     show wpQuiet _ _ _ _ [_] _
     try (conv => arg 6; simp only [Act.put, List.setIfInBounds_toArray, List.set_cons_succ, List.set_cons_zero])
     repeat (first | go_big_quiet_skip | (go_big_quiet_want; first | (apply quiet_load CT_int; rfl; rfl; exact (fun w' hG => hG.cell (by simp <;> omega) x0); go_big_quiet_on; simp only [Act.put, List.setIfInBounds_toArray, List.set_cons_succ, List.set_cons_zero]) | (apply quiet_load CT_int; rfl; rfl; exact (fun w' hG => hG.cell (by simp <;> omega) y0); go_big_quiet_on; simp only [Act.put, List.setIfInBounds_toArray, List.set_cons_succ, List.set_cons_zero]) | (apply quiet_load CT_int; rfl; rfl; exact (fun w' hG => hG.cell (by simp <;> omega) x1); go_big_quiet_on; simp only [Act.put, List.setIfInBounds_toArray, List.set_cons_succ, List.set_cons_zero]) | (apply quiet_load CT_ints; rfl; rfl; exact (fun w' hG => hG.cell (by simp <;> omega) x2); go_big_quiet_on; simp only [Act.put, List.setIfInBounds_toArray, List.set_cons_succ, List.set_cons_zero]) | (apply quiet_load CT_ints; rfl; rfl; exact (fun w' hG => hG.cell (by simp <;> omega) y2); go_big_quiet_on; simp only [Act.put, List.setIfInBounds_toArray, List.set_cons_succ, List.set_cons_zero]) | (go_big_quiet_op; first | go_big_quiet_on | (refine ⟨_, (fun _ _ => rfl), ?_⟩; go_big_quiet_on))))
     refine wpQuiet_nil ?_
     refine wpSegs_nil ?_
     have hof := hO9.keep hK9 (fun g hg _ e => by have := hl9 g hg; omega)
     have hBf := ((bR9.set 0 (.int .i64 ((R : Int) + R'))).set 1 (.int .i64 (C : Int))).set 2 (.slice a9 (an + bn) c9)
     have hGf := (hGz.trans hG9).keep hK9 fun q hq => by omega
     have hnn : NumL (ca ++ cb) := fun x hx => (List.mem_append.1 hx).elim (hn x) (hn' x)
     go_wp2
     refine ret_cell_tmp T_mat rfl rfl rfl hBf ⟨_, by rw [Hy.out.1]; rfl, by rw [Hy.out.2]; exact ⟨a9, an + bn, c9, rfl, hof, num_rng hnn, fun g hg => ⟨by have := hl9 g hg; omega, hof.lt hg⟩, by show I64 ((R : Int) + R'); unfold I64; omega, by show I64 (C : Int); unfold I64; omega⟩, hGf⟩
   ·have q2 : ((C : Int) != (C' : Int)) = true := by simp; omega
    have Hz := Lib.hid (Hno.out (by rw [Hok.out, decide_eq_false (by omega)]; rfl))
    obtain ⟨⟨z0, z1, z2⟩, g0, g1, g2⟩ := bRz.three
    have hltz := bRz.lt
    have h1 : w.heap.size ≤ w.heap.size + 1 + 1 := by omega
    go_wp2
    exact ret_cell_tmp T_mat rfl rfl rfl (((bRz.set 0 _).set 1 _).set 2 _) ⟨_, by rw [Hz.out.1]; rfl, by rw [Hz.out.2]; exact OM.zero, ((hGz.setCell h1 _).setCell h1 _).setCell h1 _⟩
theorem sStackRows_c {S T : Nat → Prop} {u v : Value} {A B : Mat} {w : World} (hA : VM w S u A) (hB : VM w T v B) (hbA : bdM A ≤ 1048576) (hbB : bdM B ≤ 1048576) :
  Calls Tryz.prog 47 #[u, v] w fun e w' => ∃ r, e = .returned (.tuple #[r, .bool (stackOk A B)]) ∧ OM w' (New w w') r (stackB A B) ∧ Grow w w' := by
 have hVA := hA; have hVB := hB
 obtain ⟨aa, an, ac, rfl, hA, ia1, ia2⟩ := hA
 obtain ⟨ba, bn, bc, rfl, hB, ib1, ib2⟩ := hB
 obtain ⟨w3, hw3⟩ : ∃ w3, w3 = ((w.alloc (.cells #[.int .i64 A.rows, .int .i64 A.cols, .slice aa an ac] 26)).alloc (.cells #[.int .i64 B.rows, .int .i64 B.cols, .slice ba bn bc] 26)).alloc (.cells #[.int .i64 0, .int .i64 0, .slice none 0 0] 26) := ⟨_, rfl⟩
 have hG3 : Grow w w3 := by rw [hw3]; exact (((Grow.refl w).alloc _ _).alloc _ _).alloc _ _
 have bA : Blk w3 w.heap.size #[.int .i64 A.rows, .int .i64 A.cols, .slice aa an ac] 26 := by rw [hw3]; exact ((Blk.new w _ _).alloc _).alloc _
 have bB : Blk w3 (w.heap.size + 1) #[.int .i64 B.rows, .int .i64 B.cols, .slice ba bn bc] 26 := by rw [hw3]; exact (Blk.newAt _ _ _ (by simp)).alloc _
 have bR : Blk w3 (w.heap.size + 1 + 1) #[.int .i64 0, .int .i64 0, .slice none 0 0] 26 := by rw [hw3]; exact Blk.newAt _ _ _ (by simp)
 have Hw3 := Lib.hid hw3; clear hw3
 go_enter Tryz.func47, Tryz.ntmps47
 go_wp2_with fail
 rw [← Hw3.out]
 refine (sIsMatrix_c (hVA.grow hG3) (by omega)).mono ?_
 rintro e w4 ⟨rfl, hG4⟩
 have bB4 := bB.grow hG4
 obtain ⟨⟨y0, y1, y2⟩, -⟩ := bB4.three
 have hltB := bB4.lt
 cases hmA : isMatB A with
 | false =>
  have Hz := Lib.hid (stack_no (a := A) (b := B) (by unfold stackOk; rw [hmA]; rfl))
  have bRz := bR.grow hG4
  have hGz := hG3.trans hG4
  clear hmA
  obtain ⟨⟨z0, z1, z2⟩, g0, g1, g2⟩ := bRz.three
  have hltz := bRz.lt
  have h1 : w.heap.size ≤ w.heap.size + 1 + 1 := by omega
  go_wp2
  exact ret_cell_tmp T_mat rfl rfl rfl (((bRz.set 0 _).set 1 _).set 2 _) ⟨_, by rw [Hz.out.1]; rfl, by rw [Hz.out.2]; exact OM.zero, ((hGz.setCell h1 _).setCell h1 _).setCell h1 _⟩
 | true =>
  have HmA := Lib.hid hmA
  go_wp2_with fail
  refine (sIsMatrix_c ((hVB.grow hG3).grow hG4) (by omega)).mono ?_
  rintro e w5 ⟨rfl, hG5⟩
  have bRz := (bR.grow hG4).grow hG5
  have hGz := (hG3.trans hG4).trans hG5
  have bA5 := (bA.grow hG4).grow hG5
  have bB5 := bB4.grow hG5
  clear y0 y1 y2 hltB
  cases hmB : isMatB B with
  | false =>
   have Hz := Lib.hid (stack_no (a := A) (b := B) (by unfold stackOk; rw [hmB]; simp))
   clear hmB hmA
   obtain ⟨⟨z0, z1, z2⟩, g0, g1, g2⟩ := bRz.three
   have hltz := bRz.lt
   have h1 : w.heap.size ≤ w.heap.size + 1 + 1 := by omega
   go_wp2
   exact ret_cell_tmp T_mat rfl rfl rfl (((bRz.set 0 _).set 1 _).set 2 _) ⟨_, by rw [Hz.out.1]; rfl, by rw [Hz.out.2]; exact OM.zero, ((hGz.setCell h1 _).setCell h1 _).setCell h1 _⟩
  | true =>
   obtain ⟨R, C, e1, e2, hR, hC, hl, hn⟩ := isMatB_shape hmA
   obtain ⟨R', C', e1', e2', hR', hC', hl', hn'⟩ := isMatB_shape hmB
   have hcs := stack_no (a := A) (b := B)
   have hys := stack_yes (a := A) (b := B)
   have hok : stackOk A B = (decide ((C : Int) = C') && decide ((R : Int) + R' ≤ 24)) := by unfold stackOk; rw [hmA, hmB, e2, e2', e1, e1']; rfl
   have Hno := Lib.hid hcs; have Hys := Lib.hid hys; have Hok := Lib.hid hok
   clear hcs hys hok hmA hmB HmA
   obtain ⟨ar, acc, ca⟩ := A
   obtain ⟨br, bcc, cb⟩ := B
   simp only at e1 e2 e1' e2' hl hl' hn hn' hA hB
   subst e1; subst e2; subst e1'; subst e2'
   obtain ⟨⟨x0, x1, x2⟩, -⟩ := bA5.three
   obtain ⟨⟨y0, y1, y2⟩, -⟩ := bB5.three
   have hltA := bA5.lt
   have hltB := bB5.lt
   have Hl := Lib.hid hl; have Hl' := Lib.hid hl'; clear hl hl'
   by_cases hcol : C = C'
   ·subst hcol
    have q2 : ((C : Int) != (C : Int)) = false := by simp
    by_cases hsum : 24 < R + R'
    ·have Hz := Lib.hid (Hno.out (by rw [Hok.out, decide_eq_true rfl, decide_eq_false (by omega)]; rfl))
     obtain ⟨⟨z0, z1, z2⟩, g0, g1, g2⟩ := bRz.three
     have hltz := bRz.lt
     have h1 : w.heap.size ≤ w.heap.size + 1 + 1 := by omega
     go_wp2
     exact ret_cell_tmp T_mat rfl rfl rfl (((bRz.set 0 _).set 1 _).set 2 _) ⟨_, by rw [Hz.out.1]; rfl, by rw [Hz.out.2]; exact OM.zero, ((hGz.setCell h1 _).setCell h1 _).setCell h1 _⟩
    ·have Hy := Lib.hid (Hys.out (by rw [Hok.out, decide_eq_true rfl, decide_eq_true (by omega)]; rfl))
     have rA := ((hA.grow hG3).grow hG4).grow hG5
     have rB := ((hB.grow hG3).grow hG4).grow hG5
     have hla := rA.len
     have hlb := rB.len
     have hRC : R * C ≤ 24 * 24 := Nat.mul_le_mul hR hC
     have hRC' : R' * C ≤ 24 * 24 := Nat.mul_le_mul hR' hC
     have han : an ≤ 576 := by have := Hl.out; omega
     have hbn : bn ≤ 576 := by have := Hl'.out; omega
     have hltR := bRz.lt
     have hs5 := hGz.size
     clear hla hlb hRC hRC'
     simp only at x0 x1 x2 y0 y1 y2
     go_wp2
     refine wp_region_segs (S := (Keep (fun q => q ≠ w.heap.size + 1 + 1) w5)) [([0, 1, 2, 3, 4, 5, 6, 8, 9, 11, 12], some 7), ([], some 10), ([], some 13), ([], some 14), ([], some 15), ([16], none)] P_mixed (by kernel_rfl) (fun _ _ _ _ _ h => h) (Keep.refl _ _).drew ?_
     show wpQuiet _ _ _ _ [_, _, _, _, _, _, _, _, _, _, _] _
     repeat (first | go_big_quiet_skip | (go_big_quiet_want; first | (apply quiet_load CT_int; rfl; rfl; exact (fun w' hG => hG.cell (by simp <;> omega) x0); go_big_quiet_on; simp only [Act.put, List.setIfInBounds_toArray, List.set_cons_succ, List.set_cons_zero]) | (apply quiet_load CT_int; rfl; rfl; exact (fun w' hG => hG.cell (by simp <;> omega) y0); go_big_quiet_on; simp only [Act.put, List.setIfInBounds_toArray, List.set_cons_succ, List.set_cons_zero]) | (apply quiet_load CT_int; rfl; rfl; exact (fun w' hG => hG.cell (by simp <;> omega) x1); go_big_quiet_on; simp only [Act.put, List.setIfInBounds_toArray, List.set_cons_succ, List.set_cons_zero]) | (apply quiet_load CT_ints; rfl; rfl; exact (fun w' hG => hG.cell (by simp <;> omega) x2); go_big_quiet_on; simp only [Act.put, List.setIfInBounds_toArray, List.set_cons_succ, List.set_cons_zero]) | (apply quiet_load CT_ints; rfl; rfl; exact (fun w' hG => hG.cell (by simp <;> omega) y2); go_big_quiet_on; simp only [Act.put, List.setIfInBounds_toArray, List.set_cons_succ, List.set_cons_zero]) | (go_big_quiet_op; first | go_big_quiet_on | (refine ⟨_, (fun _ _ => rfl), ?_⟩; go_big_quiet_on))))
     refine wpQuiet_nil ?_
     obtain ⟨w7, hw7⟩ : ∃ w7, w7 = w5.drew := ⟨_, rfl⟩
     rw [← hw7]
     have hG7 : Grow w5 w7 := by rw [hw7]; exact (Grow.refl _).drew
     clear hw7
     refine seg_go rfl (fun K hK => ?_)
     refine par_built0 rfl T_ints ?_
     have hE : Own (w7.alloc (.cells #[] 3)) 3 1 (some ⟨w7.heap.size, 0, none⟩) 0 0 [] := Own.freshAt rfl (by unfold maxLen; omega) rfl
     refine hK _ _ ((hG7.alloc _ _).mono fun _ _ _ => trivial) ?_
     clear hK K
     show wpQuiet _ _ _ _ [] _
     try (conv => arg 6; simp only [Act.put, List.setIfInBounds_toArray, List.set_cons_succ, List.set_cons_zero])
     refine wpQuiet_nil ?_
     refine seg_go rfl (fun K hK => ?_)
     refine op_app rfl T_ints rfl hE rfl (rA.row.grow (hG7.alloc _ _)) (ints_one _) (by omega) (by unfold maxLen; omega) ?_
     intro a8 c8 w8 hA8
     have hs7 := hG7.size
     have hG8 : Grow w5 w8 := hA8.grow (hG7.alloc _ _) (fun g hg => by simp at hg; omega)
     have hl8 := hA8.lo (B := w5.heap.size) (by simp; omega) (fun g hg => by simp at hg; omega)
     have hO8 : Own w8 3 1 a8 an c8 (ints ca) := by have := hA8.own; simpa [ints] using this
     have hs8 := hG8.size
     clear hA8 hE
     rw [Nat.zero_add]
     refine hK _ _ (hG8.mono fun _ _ _ => trivial) ?_
     clear hK K
     show wpQuiet _ _ _ _ [] _
     try (conv => arg 6; simp only [Act.put, List.setIfInBounds_toArray, List.set_cons_succ, List.set_cons_zero])
     refine wpQuiet_nil ?_
     refine seg_go rfl (fun K hK => ?_)
     refine op_app rfl T_ints rfl hO8 rfl (rB.row.grow hG8) (ints_one _) (by omega) (by unfold maxLen; omega) ?_
     intro a9 c9 w9 hA9
     have hG9 : Grow w5 w9 := hA9.grow hG8 (fun g hg => hl8 g hg)
     have hl9 := hA9.lo (B := w5.heap.size) (by omega) hl8
     have hO9 : Own w9 3 1 a9 (an + bn) c9 (ints (ca ++ cb)) := by have := hA9.own; simpa [ints] using this
     have bR9 := bRz.grow hG9
     clear hA9 hO8
     refine hK _ _ (hG9.mono fun _ _ _ => trivial) ?_
     clear hK K
     show wpQuiet _ _ _ _ [] _
     try (conv => arg 6; simp only [Act.put, List.setIfInBounds_toArray, List.set_cons_succ, List.set_cons_zero])
     refine wpQuiet_nil ?_
     refine seg_go rfl (fun K hK => ?_)
     go_wp2_with fail
     refine hK _ _ ((hG9.mono fun _ _ _ => trivial)) ?_
     clear hK K
     show wpQuiet _ _ _ _ [] _
     try (conv => arg 6; simp only [Act.put, List.setIfInBounds_toArray, List.set_cons_succ, List.set_cons_zero])
     refine wpQuiet_nil ?_
     refine seg_go rfl (fun K hK => ?_)
     obtain ⟨⟨z0, z1, z2⟩, f0, f1, f2⟩ := bR9.three
     go_wp2_with fail
     have hK9 : Keep (fun q => q ≠ w.heap.size + 1 + 1) w9 (((w9.setCell ⟨w.heap.size + 1 + 1, 0, none⟩ (.int .i64 ((R : Int) + R'))).setCell ⟨w.heap.size + 1 + 1, 1, none⟩ (.int .i64 (C : Int))).setCell ⟨w.heap.size + 1 + 1, 2, none⟩ (.slice a9 (an + bn) c9)) :=
      (((Keep.refl _ w9).setCell (fun _ e => e rfl) _).setCell (fun _ e => e rfl) _).setCell (fun _ e => e rfl) _
     refine hK _ _ (((hG9.mono fun _ _ _ => trivial).trans hK9)) ?_
     clear hK K
     show wpQuiet _ _ _ _ [_] _
     try (conv => arg 6; simp only [Act.put, List.setIfInBounds_toArray, List.set_cons_succ, List.set_cons_zero])
     repeat (first | go_big_quiet_skip | (go_big_quiet_want; first | (apply quiet_load CT_int; rfl; rfl; exact (fun w' hG => hG.cell (by simp <;> omega) x0); go_big_quiet_on; simp only [Act.put, List.setIfInBounds_toArray, List.set_cons_succ, List.set_cons_zero]) | (apply quiet_load CT_int; rfl; rfl; exact (fun w' hG => hG.cell (by simp <;> omega) y0); go_big_quiet_on; simp only [Act.put, List.setIfInBounds_toArray, List.set_cons_succ, List.set_cons_zero]) | (apply quiet_load CT_int; rfl; rfl; exact (fun w' hG => hG.cell (by simp <;> omega) x1); go_big_quiet_on; simp only [Act.put, List.setIfInBounds_toArray, List.set_cons_succ, List.set_cons_zero]) | (apply quiet_load CT_ints; rfl; rfl; exact (fun w' hG => hG.cell (by simp <;> omega) x2); go_big_quiet_on; simp only [Act.put, List.setIfInBounds_toArray, List.set_cons_succ, List.set_cons_zero]) | (apply quiet_load CT_ints; rfl; rfl; exact (fun w' hG => hG.cell (by simp <;> omega) y2); go_big_quiet_on; simp only [Act.put, List.setIfInBounds_toArray, List.set_cons_succ, List.set_cons_zero]) | (go_big_quiet_op; first | go_big_quiet_on | (refine ⟨_, (fun _ _ => rfl), ?_⟩; go_big_quiet_on))))
     refine wpQuiet_nil ?_
     refine wpSegs_nil ?_
     have hof := hO9.keep hK9 (fun g hg _ e => by have := hl9 g hg; omega)
     have hBf := ((bR9.set 0 (.int .i64 ((R : Int) + R'))).set 1 (.int .i64 (C : Int))).set 2 (.slice a9 (an + bn) c9)
     have hGf := (hGz.trans hG9).keep hK9 fun q hq => by omega
     have hnn : NumL (ca ++ cb) := fun x hx => (List.mem_append.1 hx).elim (hn x) (hn' x)
     go_wp2
     refine ret_cell_tmp T_mat rfl rfl rfl hBf ⟨_, by rw [Hy.out.1]; rfl, by rw [Hy.out.2]; exact ⟨a9, an + bn, c9, rfl, hof, num_rng hnn, fun g hg => ⟨by have := hl9 g hg; omega, hof.lt hg⟩, by show I64 ((R : Int) + R'); unfold I64; omega, by show I64 (C : Int); unfold I64; omega⟩, hGf⟩
   ·have q2 : ((C : Int) != (C' : Int)) = true := by simp; omega
    have Hz := Lib.hid (Hno.out (by rw [Hok.out, decide_eq_false (by omega)]; rfl))
    obtain ⟨⟨z0, z1, z2⟩, g0, g1, g2⟩ := bRz.three
    have hltz := bRz.lt
    have h1 : w.heap.size ≤ w.heap.size + 1 + 1 := by omega
    go_wp2
    exact ret_cell_tmp T_mat rfl rfl rfl (((bRz.set 0 _).set 1 _).set 2 _) ⟨_, by rw [Hz.out.1]; rfl, by rw [Hz.out.2]; exact OM.zero, ((hGz.setCell h1 _).setCell h1 _).setCell h1 _⟩
end Go.Proofs.YtoiblknchcoecaaGreat

namespace Go.Proofs.YtoiblknchcoecaaGreat
open Go.RowKit
theorem splice_nil {α : Type} (L : List α) (off : Nat) : splice L off [] = L := by simp [splice]
theorem op_copy {P : Program} {o : Oper} {a : Act} {w : World} {K : Act → World → Prop} {Q : Exit → Act → World → Prop} {d s : Operand} {t e : TypeId} {z : Value} {bytes : Nat} (ho : o.op = .call { callee := .builtin .copy, args := #[d, s], argTypes := #[t, t] })
  (hT : SlT P t e z 1 bytes) {S : Nat → Prop} {dp sp oa : Option Addr} {dCap sLen sCap n cap off : Nat} {cs news : List Value} (hd : a.eval d = .slice dp sLen dCap) (hs : a.eval s = .slice sp sLen sCap) (hown : Own w e 1 oa n cap cs)
  (hsrc : Row w S 1 sp sLen sCap news) (h1 : ∀ u ∈ news, u.oneCell' = true) (hfit : off + sLen ≤ n) (hdp : 0 < sLen → ∃ g, oa = some ⟨g, 0, none⟩ ∧ dp = some ⟨g, off, none⟩)
  (h : ∀ w' v, Own w' e 1 oa n cap (splice cs off news) → Keep (fun q => blk oa ≠ some q) w w' → K (a.put o.dst v) w') : o.wp P a w K Q := by
 obtain ⟨ht, ⟨i, hi, hz, hsz, hby⟩, hzs⟩ := hT
 have hsz' : (P.info? e).map (·.size) = some 1 := by rw [hi]; simp [hsz]
 have hln : news.length = sLen := by have := hsrc.len; omega
 by_cases h0 : sLen = 0
 ·subst h0
  obtain rfl : news = [] := List.eq_nil_of_length_eq_zero hln
  have hr := run_copy_none (P := P) w t t o.type e dp sp 0 dCap 0 sCap ht hsz' rfl
  unfold Oper.wp execOp
  simp only [ho, resolve, invoke, builtin, Sem.run_bind, Sem.run_pure, Result.andThen_ok, List.map_toArray, List.map_cons, List.map_nil, hs, hd, hr]
  exact h w _ (by rw [splice_nil]; exact hown) (Keep.refl _ _)
 ·obtain ⟨g, rfl, rfl⟩ := hdp (by omega)
  obtain ⟨-, cur, hg, hsize, htake⟩ := hown.block _ rfl
  obtain ⟨b, so, rfl, -, hc⟩ := hsrc.addr (by intro e2; rw [e2] at hln; simp at hln; omega)
  have hlc := hown.len
  have hle := hown.le
  rw [Nat.mul_one] at hsize htake hlc
  have hr := run_copy_row (P := P) w t t o.type e g off sLen dCap ⟨b, so, none⟩ sLen sCap cur e news ht hsz' hg (by simp [hln]) (fun j v hj => by rw [Addr.add_lit]; exact hc j v hj) (by omega) h1
  unfold Oper.wp execOp
  simp only [ho, resolve, invoke, builtin, Sem.run_bind, Sem.run_pure, Result.andThen_ok, List.map_toArray, List.map_cons, List.map_nil, hs, hd, hr]
  refine h _ _ ⟨?_, hown.le, hown.max, hown.nil, fun p hp => ?_⟩ (keep_setRow hg _)
  ·rw [length_splice _ _ _ (by omega), hlc, Nat.mul_one]
  ·obtain rfl := Option.some.inj hp
   refine ⟨rfl, _, setRow_heap w g cur _ e _ hg, ?_, ?_⟩
   ·simp only [List.size_toArray, List.length_append, List.length_take, List.length_drop, Array.length_toList]; omega
   ·rw [Nat.mul_one, ← htake]
    unfold splice
    simp only [List.append_assoc]
    rw [List.take_take, Nat.min_eq_left (by omega), List.take_append, List.take_append]
    simp only [List.length_take, Array.length_toList]
    rw [List.take_of_length_le (l := List.take off cur.toList) (by simp; omega), List.take_of_length_le (l := news) (by omega)]
    congr 2
    rw [List.drop_take]
    congr 1
    omega
def cutL (m : List Int) (K n : Nat) (t : Nat) : List Int := ((List.range t).map fun i => (rowL m K i).take n).flatten
theorem cutL_succ (m : List Int) (K n t : Nat) : cutL m K n (t + 1) = cutL m K n t ++ (rowL m K t).take n := by
 unfold cutL; rw [List.range_succ, List.map_append, List.flatten_append]; simp
theorem cutL_len {m : List Int} {K R n : Nat} (hl : m.length = R * K) (hn : n ≤ K) : ∀ {t : Nat}, t ≤ R → (cutL m K n t).length = t * n
 | 0, _ => by simp [cutL]
 | t + 1, h => by
  rw [cutL_succ, List.length_append, cutL_len hl hn (by omega), List.length_take, rowL_len hl (by omega), Nat.add_mul]; omega
theorem cutL_num {m : List Int} {K n : Nat} (h : NumL m) (t : Nat) : NumL (cutL m K n t) := fun x hx => by
 unfold cutL at hx
 rw [List.mem_flatten] at hx
 obtain ⟨l, hl, hx⟩ := hx
 obtain ⟨i, _, rfl⟩ := List.mem_map.1 hl
 exact h x (List.mem_of_mem_drop (List.mem_of_mem_take (List.mem_of_mem_take hx)))
theorem cut_splice {m : List Int} {K R n t : Nat} (hl : m.length = R * K) (hn : n ≤ K) (ht : t < R) :
  splice (ints (cutL m K n t ++ List.replicate ((R - t) * n) 0)) (t * n) (ints ((rowL m K t).take n)) = ints (cutL m K n (t + 1) ++ List.replicate ((R - (t + 1)) * n) 0) := by
 have h1 := cutL_len hl hn (Nat.le_of_lt ht)
 have h2 : ((rowL m K t).take n).length = n := by rw [List.length_take, rowL_len hl ht]; omega
 have h3 : (R - t) * n = n + (R - (t + 1)) * n := by rw [show R - t = (R - (t + 1)) + 1 by omega, Nat.add_mul]; omega
 unfold splice
 rw [cutL_succ]
 simp only [ints, List.map_append, List.length_map, h2]
 rw [List.take_append_of_le_length (by simp [h1]), List.take_of_length_le (by simp [h1]), List.drop_append, List.drop_eq_nil_of_le (by simp [h1]), List.append_assoc, List.nil_append]
 simp only [List.length_map, h1, List.map_replicate, List.drop_replicate]
 congr 3
 rw [h3]; omega
theorem firstCols_c {S : Nat → Prop} (a : Option Addr) (n cp D R c : Nat) (m : List Int) (w : World) (h : RdI w S a n cp m) (hl : m.length = R * D) (hR : R ≤ 24) (hD : D ≤ 24) (hc : c ≤ D) :
  Calls Tryz.prog 51 #[.agg #[.int .i64 R, .int .i64 D, .slice a n cp], .int .i64 c] w fun e w' => ∃ a' c', e = .returned (.agg #[.int .i64 R, .int .i64 c, .slice a' (R * c) c']) ∧ Own w' 3 1 a' (R * c) c' (ints (cutL m D c R)) ∧ (∀ q, blk a' = some q → w.heap.size ≤ q) ∧ Grow w w' := by
 obtain ⟨w2, hw2⟩ : ∃ w2, w2 = (w.alloc (.cells #[.int .i64 (R : Int), .int .i64 (D : Int), .slice a n cp] 26)).alloc (.cells #[.int .i64 0, .int .i64 0, .slice none 0 0] 26) := ⟨_, rfl⟩
 have hG2 : Grow w w2 := by rw [hw2]; exact ((Grow.refl w).alloc _ _).alloc _ _
 have bM : Blk w2 w.heap.size #[.int .i64 (R : Int), .int .i64 (D : Int), .slice a n cp] 26 := by rw [hw2]; exact (Blk.new w _ _).alloc _
 have bR : Blk w2 (w.heap.size + 1) #[.int .i64 0, .int .i64 0, .slice none 0 0] 26 := by rw [hw2]; exact Blk.newAt _ _ _ (by simp)
 obtain ⟨⟨m0, m1, m2⟩, -⟩ := bM.three
 rw [hw2] at m0 m1 m2
 have Hw2 := Lib.hid hw2; clear hw2
 have Hl := Lib.hid hl; clear hl
 go_enter Tryz.func51, Tryz.ntmps51
 go_wp2_with fail
 rw [← Hw2.out]
 refine (newMatrix_c R c _ (by omega) (by omega)).mono ?_
 rintro e w3 ⟨oa, rfl, hO, hlo, hG3⟩
 clear m0 m1 m2
 obtain ⟨w4, hw4⟩ : ∃ w4, w4 = w3.alloc (.cells #[.int .i64 (R : Int), .int .i64 (c : Int), .slice oa (R * c) (R * c)] 26) := ⟨_, rfl⟩
 have hG4 : Grow w3 w4 := by rw [hw4]; exact (Grow.refl w3).alloc _ _
 have bO : Blk w4 w3.heap.size #[.int .i64 (R : Int), .int .i64 (c : Int), .slice oa (R * c) (R * c)] 26 := by rw [hw4]; exact Blk.new w3 _ _
 have hG24 := hG3.trans hG4
 have bM4 := bM.grow hG24
 have bR4 := bR.grow hG24
 have hO4 := hO.grow hG4
 have rd4 := (h.grow hG2).grow hG24
 have hs2 := hG2.size
 have hs3 := hG3.size
 have hRlt := bR.lt
 have nM : blk oa ≠ some w.heap.size := fun e => by have := hlo _ e; omega
 have nR : blk oa ≠ some (w.heap.size + 1) := fun e => by have := hlo _ e; omega
 have nO : blk oa ≠ some w3.heap.size := fun e => by have := hO.lt e; omega
 have nD : ∀ g, g < w.heap.size → blk oa ≠ some g := fun g hg e => by have := hlo _ e; omega
 have rdo : RdI w4 (fun g => g < w.heap.size) a n cp m := (h.weak (T := fun g => g < w.heap.size) (fun _ hb _ => hb)).grow (hG2.trans hG24)
 have Hw4 := Lib.hid hw4; clear hw4 hO rd4 h
 have hz : ints (List.replicate (R * c) 0) = ints (cutL m D c 0 ++ List.replicate ((R - 0) * c) 0) := by simp [cutL]
 rw [hz] at hO4
 have hRc : R * c ≤ 24 * 24 := Nat.mul_le_mul hR (by omega)
 go_wp2
 rw [← Hw4.out]
 go_loopw [6] (fun q wr => Keep (fun g => blk oa ≠ some g) w4 wr ∧ ∃ i : Nat, i ≤ R ∧ q = .int .i64 i ∧ Own wr 3 1 oa (R * c) (R * c) (ints (cutL m D c i ++ List.replicate ((R - i) * c) 0))) (fun q _ => R - (intOf q).toNat)
 case atStart => exact ⟨Keep.refl _ _, 0, Nat.zero_le _, rfl, hO4⟩
 case round =>
  clear hO4 hz
  obtain ⟨hKp, i, hi, rfl, hO⟩ := hrel
  have bMr := bM4.keep hKp nM
  have bOr := bO.keep hKp nO
  obtain ⟨⟨m0, m1, m2⟩, -⟩ := bMr.three
  have hltM := bMr.lt
  by_cases hlt : i < R
  ·have hri := place_lt (C := c + 1) (j := 0) (by omega) hlt
   have hic : i * c + c ≤ R * c := by have := Nat.mul_le_mul_right c (show i + 1 ≤ R from hlt); rw [Nat.add_mul] at this; omega
   have rdr := rdo.keep hKp (fun g hg h0 => nD g h0)
   have Hsp := Lib.hid (cut_splice (m := m) (K := D) (R := R) (n := c) (t := i) Hl.out hc hlt)
   clear hri
   go_wp2
   have hle0 := rdr.row.le
   have hml := rdr.len
   have Hml := Lib.hid hml; clear hml
   refine wp_region_segs (S := (Keep (fun g => blk oa ≠ some g) wr)) [([0, 1, 3, 4, 6], some 2), ([], some 5), ([7], some 8)] P_mixed (by kernel_rfl) (fun _ _ _ _ _ h => h) (Keep.refl _ _).drew ?_
   show wpQuiet _ _ _ _ [_, _, _, _, _] _
   repeat (first | go_big_quiet_skip | (go_big_quiet_want; first | (apply quiet_load3 T_mat; rfl; rfl; exact (fun w' hG => bOr.keep hG nO); go_big_quiet_on; simp only [Act.put, List.setIfInBounds_toArray, List.set_cons_succ, List.set_cons_zero]) | (apply quiet_load3 T_mat; rfl; rfl; exact (fun w' hG => bMr.keep hG nM); go_big_quiet_on; simp only [Act.put, List.setIfInBounds_toArray, List.set_cons_succ, List.set_cons_zero]) | (apply quiet_sliceH (x := .tmp 22) (h := .tmp 23); rfl; exact rsl; go_big_quiet_on; simp only [Act.put, List.setIfInBounds_toArray, List.set_cons_succ, List.set_cons_zero]) | (go_big_quiet_op; first | go_big_quiet_on | (refine ⟨_, (fun _ _ => rfl), ?_⟩; go_big_quiet_on))))
   refine wpQuiet_nil ?_
   obtain ⟨w7, hw7⟩ : ∃ w7, w7 = wr.drew := ⟨_, rfl⟩
   rw [← hw7]
   have hG7 : Grow wr w7 := by rw [hw7]; exact (Grow.refl _).drew
   clear hw7
   refine seg_go rfl (fun K hK => ?_)
   go_wp2_with fail
   refine (row_c oa (R * c) (R * c) c i (R : Int) _ _ (hO.grow hG7) (by simpa using hic) (by omega) (by omega)).mono ?_
   rintro e w8 ⟨a8, rfl, hA8, hG8⟩
   have hG78 := hG7.trans hG8
   go_wp2_with fail
   refine hK _ _ (hG78.any) ?_
   clear hK K
   show wpQuiet _ _ _ _ [] _
   try (conv => arg 6; simp only [Act.put, List.setIfInBounds_toArray, List.set_cons_succ, List.set_cons_zero])
   refine wpQuiet_nil ?_
   refine seg_go rfl (fun K hK => ?_)
   go_wp2_with fail
   refine (rowRd_c a n cp D R i m _ (rdr.grow hG78) Hl.out hlt hR hD).mono ?_
   rintro e w9 ⟨a9, c9, rfl, rRow, hG9⟩
   have hG79 := hG78.trans hG9
   have hc9 := rRow.row.le
   have rsl := T_ints.atH (a := a9) (n := D) (cap := c9) (k := c) (i := (c : Int)) (by simp) (by omega)
   have rP := rRow.pre hc
   go_wp2_with fail
   refine hK _ _ (hG79.any) ?_
   clear hK K
   show wpQuiet _ _ _ _ [_] _
   try (conv => arg 6; simp only [Act.put, List.setIfInBounds_toArray, List.set_cons_succ, List.set_cons_zero])
   repeat (first | go_big_quiet_skip | (go_big_quiet_want; first | (apply quiet_load3 T_mat; rfl; rfl; exact (fun w' hG => bOr.keep hG nO); go_big_quiet_on; simp only [Act.put, List.setIfInBounds_toArray, List.set_cons_succ, List.set_cons_zero]) | (apply quiet_load3 T_mat; rfl; rfl; exact (fun w' hG => bMr.keep hG nM); go_big_quiet_on; simp only [Act.put, List.setIfInBounds_toArray, List.set_cons_succ, List.set_cons_zero]) | (apply quiet_sliceH (x := .tmp 22) (h := .tmp 23); rfl; exact rsl; go_big_quiet_on; simp only [Act.put, List.setIfInBounds_toArray, List.set_cons_succ, List.set_cons_zero]) | (go_big_quiet_op; first | go_big_quiet_on | (refine ⟨_, (fun _ _ => rfl), ?_⟩; go_big_quiet_on))))
   refine wpQuiet_nil ?_
   refine seg_go rfl (fun K hK => ?_)
   have hO9 := hO.grow hG79
   refine op_copy rfl T_ints rfl rfl hO9 rP.row (ints_one _) (by omega) hA8 ?_
   intro w10 v10 hO10 hK10
   rw [Hsp.out] at hO10
   have hKs : Keep (fun g => blk oa ≠ some g) wr w10 := hG79.any.trans hK10
   refine hK _ _ hKs ?_
   clear hK K
   refine wpSegs_nil ?_
   clear Hsp hO hO9
   go_wp2
   go_roundw
   case rel => exact ⟨hKp.trans hKs, i + 1, by omega, by go_num, hO10⟩
   case measure => simp [intOf]; omega
  ·have hiE : i = R := by omega
   rw [hiE] at hO
   have bRr := bR4.keep hKp nR
   obtain ⟨⟨z0, z1, z2⟩, g0, g1, g2⟩ := bRr.three
   obtain ⟨⟨o0, o1, o2⟩, -⟩ := bOr.three
   have hltR := bRr.lt
   have hltO := bOr.lt
   have hKs : Keep (fun q => q ≠ w.heap.size + 1) wr (((wr.setCell ⟨w.heap.size + 1, 0, none⟩ (.int .i64 (R : Int))).setCell ⟨w.heap.size + 1, 1, none⟩ (.int .i64 (c : Int))).setCell ⟨w.heap.size + 1, 2, none⟩ (.slice oa (R * c) (R * c))) :=
    (((Keep.refl _ wr).setCell (fun _ e => e rfl) _).setCell (fun _ e => e rfl) _).setCell (fun _ e => e rfl) _
   have hof := hO.keep hKs (fun g hg _ e => nR (by rw [hg, e]))
   rw [show cutL m D c R ++ List.replicate ((R - R) * c) 0 = cutL m D c R by simp] at hof
   have hGw : Grow w wr := Grow.keep (S := fun g => blk oa ≠ some g) (hG2.trans hG24) hKp nD
   have hGf := hGw.keep hKs (fun q hq => by omega)
   go_wp2
   exact ret_cell T_mat rfl rfl rfl (((bRr.set 0 _).set 1 _).set 2 _) ⟨oa, R * c, rfl, hof, (fun q hq => by have := hlo q hq; omega), hGf⟩
end Go.Proofs.YtoiblknchcoecaaGreat

namespace Go.Proofs.YtoiblknchcoecaaGreat
open Go.RowKit
theorem basB_bd (m : Mat) : bdM (basB m) ≤ 1024 := by
 cases hB : isMatB m with
 | false =>
  rw [(basB_none (by unfold hermR; rw [hB]; rfl)).2]; simp [bdM]
 | true =>
  obtain ⟨R, C, hmr, hmc, hR, hC, hl, hnum⟩ := isMatB_shape hB
  have hRC : R * C ≤ 24 * 24 := Nat.mul_le_mul hR hC
  unfold basB
  cases hh : hermR m with
  | none => simp [bdM]
  | some s =>
   have hs : herm m.cells R C = some s := by
    unfold hermR at hh
    rw [hB, if_pos rfl, hmr, hmc] at hh
    simpa using hh
   have := (herm_spec hl hnum hs).1.la
   unfold bdM
   simp only [List.length_take]
   omega
theorem kerB_bd (m : Mat) : bdM (kerB m) ≤ 1024 := by
 unfold kerB
 split
 ·exact basB_bd _
 ·simp [bdM]
structure Kern (m : Mat) (R N : Nat) (b : List Int) : Prop where
 eq : kerB m = { rows := (N : Int), cols := (R : Int), cells := b }
 rows : m.rows = (R : Int)
 hR : R ≤ 24
 hN : N ≤ 24
 len : b.length = N * R
 num : NumL b
theorem bas_of' {m : Mat} (h : basOk m = true) : ∃ (C N : Nat) (b : List Int), basB m = { rows := (N : Int), cols := (C : Int), cells := b } ∧ m.cols = ((C : Nat) : Int) ∧ C ≤ (24 : Nat) ∧ N ≤ (24 : Nat) ∧ b.length = N * C ∧ NumL b := by
 cases hB : isMatB m with
 | false =>
  have := (basB_none (m := m) (by unfold hermR; rw [hB]; rfl)).1
  rw [this] at h; cases h
 | true =>
  obtain ⟨R, C, hmr, hmc, hR, hC, hl, hnum⟩ := isMatB_shape hB
  obtain ⟨mr, mc, cells⟩ := m
  simp only at hmr hmc hl hnum
  subst hmr
  subst hmc
  cases hh : herm cells R C with
  | none =>
   have := (basB_none (m := { rows := (R : Int), cols := (C : Int), cells := cells }) (by rw [hermR_mat hB]; exact hh)).1
   rw [this] at h; cases h
  | some s =>
   obtain ⟨hs, t, ht, hE⟩ := herm_spec hl hnum hh
   have e := ech_last hE R (Nat.le_refl _) ht
   refine ⟨C, t, s.1.take (t * C), ?_, rfl, hC, by omega, ?_, fun x hx => hs.na x (List.mem_of_mem_take hx)⟩
   ·rw [(basB_some hB hh).2, e]
   ·rw [List.length_take, hs.la]
    have := Nat.mul_le_mul_right C ht
    omega
theorem kern_of {m : Mat} (h : kerOk m = true) : ∃ R N b, Kern m R N b := by
 cases hB : isMatB m with
 | false =>
  have := (kerB_none (m := m) (by unfold hermR; rw [hB]; rfl)).1
  rw [this] at h; cases h
 | true =>
  obtain ⟨R, C, hmr, hmc, hR, hC, hl, hnum⟩ := isMatB_shape hB
  obtain ⟨mr, mc, cells⟩ := m
  simp only at hmr hmc hl hnum
  subst hmr
  subst hmc
  cases hh : herm cells R C with
  | none =>
   have := (kerB_none (m := { rows := (R : Int), cols := (C : Int), cells := cells }) (by rw [hermR_mat hB]; exact hh)).1
   rw [this] at h; cases h
  | some s =>
   obtain ⟨k1, k2⟩ := kerB_some hB hh
   rw [k1] at h
   obtain ⟨C', N, b, e1, e2, e3, e4, e5, e6⟩ := bas_of' h
   have hcc : C' = R := by
    have : ((R : Nat) : Int) = (C' : Int) := e2
    omega
   subst hcc
   exact ⟨C', N, b, k2.trans e1, rfl, e3, e4, e5, e6⟩
def imOk (s f : Mat) : Bool := stackOk f s && basOk (stackB f s)
def imB (s f : Mat) : Mat := if stackOk f s = true then basB (stackB f s) else { rows := 0, cols := 0, cells := [] }
theorem im_no {s f : Mat} (h : stackOk f s = false) : imOk s f = false ∧ imB s f = { rows := 0, cols := 0, cells := [] } := by
 unfold imOk imB; rw [h]; exact ⟨rfl, rfl⟩
theorem im_yes {s f : Mat} (h : stackOk f s = true) : imOk s f = basOk (stackB f s) ∧ imB s f = basB (stackB f s) := by
 unfold imOk imB; rw [h]; exact ⟨rfl, rfl⟩
def cutM (k : Mat) (n : Int) : Mat := { rows := k.rows, cols := n, cells := cutL k.cells k.cols.toNat n.toNat k.rows.toNat }
def tz1 (s f : Mat) : Bool := basOk s && (stackOk f (basB s) && kerOk (stackB f (basB s)))
def tzC (s f : Mat) : Mat := cutM (kerB (stackB f (basB s))) f.rows
def tzOk (s f : Mat) : Bool := tz1 s f && basOk (tzC s f)
def tzB (s f : Mat) : Mat := if tz1 s f = true then basB (tzC s f) else { rows := 0, cols := 0, cells := [] }
theorem tz_no {s f : Mat} (h : tz1 s f = false) : tzOk s f = false ∧ tzB s f = { rows := 0, cols := 0, cells := [] } := by
 unfold tzOk tzB; rw [h]; exact ⟨rfl, rfl⟩
theorem tz_yes {s f : Mat} (h : tz1 s f = true) : tzOk s f = basOk (tzC s f) ∧ tzB s f = basB (tzC s f) := by
 unfold tzOk tzB; rw [h]; exact ⟨rfl, rfl⟩
theorem tz_shape {s f : Mat} (h : tz1 s f = true) : ∃ F R N b, f.rows = ((F : Nat) : Int) ∧ F ≤ R ∧ Kern (stackB f (basB s)) R N b ∧ tzC s f = { rows := (N : Int), cols := (F : Int), cells := cutL b R F N } := by
 unfold tz1 at h
 rw [Bool.and_eq_true, Bool.and_eq_true] at h
 obtain ⟨-, h2, h3⟩ := h
 obtain ⟨R, N, b, hk⟩ := kern_of h3
 have h4 := h2
 unfold stackOk at h4
 simp only [Bool.and_eq_true, decide_eq_true_eq] at h4
 obtain ⟨m1, m2, -, -⟩ := h4
 obtain ⟨F, C1, e1, -⟩ := isMatB_shape m1
 obtain ⟨B1, C2, e2, -⟩ := isMatB_shape m2
 have hr := hk.rows
 rw [(stack_yes h2).2] at hr
 simp only [e1, e2] at hr
 refine ⟨F, R, N, b, e1, by omega, hk, ?_⟩
 unfold tzC cutM
 rw [hk.eq, e1]; rfl
theorem iImage_c {S T : Nat → Prop} {sv fv : Value} {s f : Mat} {w : World} (hs : VM w S sv s) (hbs : bdM s ≤ 1048576) (hf : VM w T fv f) (hbf : bdM f ≤ 1048576) :
  Calls Tryz.prog 25 #[sv, fv] w fun e w' => ∃ r, e = .returned (.tuple #[r, .bool (imOk s f)]) ∧ OM w' (New w w') r (imB s f) ∧ Grow w w' := by
 have hVS := hs; have hVF := hf
 obtain ⟨sa, sn, sc, rfl, hs, is1, is2⟩ := hs
 obtain ⟨fa, fn, fc, rfl, hf, if1, if2⟩ := hf
 obtain ⟨w3, hw3⟩ : ∃ w3, w3 = ((w.alloc (.cells #[.int .i64 s.rows, .int .i64 s.cols, .slice sa sn sc] 26)).alloc (.cells #[.int .i64 f.rows, .int .i64 f.cols, .slice fa fn fc] 26)).alloc (.cells #[.int .i64 0, .int .i64 0, .slice none 0 0] 26) := ⟨_, rfl⟩
 have hG3 : Grow w w3 := by rw [hw3]; exact (((Grow.refl w).alloc _ _).alloc _ _).alloc _ _
 have bS : Blk w3 w.heap.size #[.int .i64 s.rows, .int .i64 s.cols, .slice sa sn sc] 26 := by rw [hw3]; exact ((Blk.new w _ _).alloc _).alloc _
 have bF : Blk w3 (w.heap.size + 1) #[.int .i64 f.rows, .int .i64 f.cols, .slice fa fn fc] 26 := by rw [hw3]; exact (Blk.newAt _ _ _ (by simp)).alloc _
 have bZ : Blk w3 (w.heap.size + 1 + 1) #[.int .i64 0, .int .i64 0, .slice none 0 0] 26 := by rw [hw3]; exact Blk.newAt _ _ _ (by simp)
 have hltZ3 := bZ.lt
 have Hw3 := Lib.hid hw3; clear hw3
 go_enter Tryz.func25, Tryz.ntmps25
 go_wp2_with fail
 rw [← Hw3.out]
 refine (iStackRows_c (hVF.grow hG3) (hVS.grow hG3) hbf hbs).mono ?_
 rintro e w4 ⟨pv, rfl, hP, hG4⟩
 have hyes := im_yes (s := s) (f := f)
 have hno := im_no (s := s) (f := f)
 have hbP := isMatB_bd (stackB_mat f s)
 generalize stackB f s = M at *
 obtain ⟨pa, pn, pc, rfl, oP, rP, fP, ip1, ip2⟩ := hP
 have hGa := (Grow.refl w4).alloc #[.int .i64 M.rows, .int .i64 M.cols, .slice pa pn pc] 26
 have bP := Blk.new w4 #[.int .i64 M.rows, .int .i64 M.cols, .slice pa pn pc] 26
 have bZ4 := bZ.grow hG4
 have hG34 := hG3.trans hG4
 have hs4 := hG4.size
 cases hok : stackOk f s with
 | false =>
  have Hz := Lib.hid (hno hok)
  clear hok oP rP bP hyes hno
  have bZ3 := (bZ4).grow hGa
  obtain ⟨⟨z0, z1, z2⟩, g0, g1, g2⟩ := bZ3.three
  obtain ⟨⟨y0, y1, y2⟩, f0, f1, f2⟩ := (bZ4).three
  have hlt := (bZ4).lt
  have hne : w.heap.size + 1 + 1 ≠ w4.heap.size := by omega
  have h1 : w.heap.size ≤ w.heap.size + 1 + 1 := by omega
  go_wp2
  exact ret_cell_tmp T_mat rfl rfl rfl (((((bZ4).set 0 _).set 1 _).set 2 _).alloc _) ⟨_, by rw [Hz.out.1]; rfl, by rw [Hz.out.2]; exact OM.zero, ((((hG34).setCell h1 _).setCell h1 _).setCell h1 _).alloc _ _⟩
 | true =>
  have Hy := Lib.hid (hyes hok)
  clear hyes hno
  obtain ⟨⟨p0, p1, p2⟩, -⟩ := bP.three
  have vP : VM _ (fun _ => True) _ M := ⟨pa, pn, pc, rfl, (oP.rdI (fun _ _ => trivial) rP).grow hGa, ip1, ip2⟩
  have hlt := bZ4.lt
  have hGt := hG34.trans hGa
  clear hok oP
  go_wp2_with fail
  refine (iBasisOf_c vP (by omega)).mono ?_
  rintro e w6 ⟨r, rfl, hR, hG6⟩
  obtain ⟨ra, rn, rc, rfl, oR, rR, fR, i1, i2⟩ := hR
  have hsa := hGa.size
  generalize basB M = BM at *
  have hGl := hGt.trans hG6
  clear p0 p1 p2
  have bZl := ((bZ4.grow hGa).grow hG6)
  obtain ⟨⟨z0, z1, z2⟩, g0, g1, g2⟩ := bZl.three
  have hltl := bZl.lt
  have hKs : Keep (fun q => q ≠ w.heap.size + 1 + 1) w6 (((w6.setCell ⟨w.heap.size + 1 + 1, 0, none⟩ (.int .i64 BM.rows)).setCell ⟨w.heap.size + 1 + 1, 1, none⟩ (.int .i64 BM.cols)).setCell ⟨w.heap.size + 1 + 1, 2, none⟩ (.slice ra rn rc)) :=
   (((Keep.refl _ w6).setCell (fun _ e => e rfl) _).setCell (fun _ e => e rfl) _).setCell (fun _ e => e rfl) _
  have hof := oR.keep hKs (fun g hg _ e => by have := (fR g hg).1; omega)
  have hGf := (hGl).keep hKs (fun q hq => by omega)
  go_wp2
  refine ret_cell_tmp T_mat rfl rfl rfl (((bZl.set 0 _).set 1 _).set 2 _) ⟨_, by rw [Hy.out.1]; rfl, by rw [Hy.out.2]; exact ⟨ra, rn, rc, rfl, hof, rR, fun g hg => ⟨by have := (fR g hg).1; omega, hof.lt hg⟩, i1, i2⟩, hGf⟩
theorem iTaken_c {S T : Nat → Prop} {sv fv : Value} {s f : Mat} {w : World} (hs : VM w S sv s) (hbs : bdM s ≤ 1048576) (hf : VM w T fv f) (hbf : bdM f ≤ 1048576) :
  Calls Tryz.prog 22 #[sv, fv] w fun e w' => ∃ r, e = .returned (.tuple #[r, .bool (tzOk s f)]) ∧ OM w' (New w w') r (tzB s f) ∧ Grow w w' := by
 have hVS := hs; have hVF := hf
 obtain ⟨sa, sn, sc, rfl, hs, is1, is2⟩ := hs
 obtain ⟨fa, fn, fc, rfl, hf, if1, if2⟩ := hf
 obtain ⟨w3, hw3⟩ : ∃ w3, w3 = ((w.alloc (.cells #[.int .i64 s.rows, .int .i64 s.cols, .slice sa sn sc] 26)).alloc (.cells #[.int .i64 f.rows, .int .i64 f.cols, .slice fa fn fc] 26)).alloc (.cells #[.int .i64 0, .int .i64 0, .slice none 0 0] 26) := ⟨_, rfl⟩
 have hG3 : Grow w w3 := by rw [hw3]; exact (((Grow.refl w).alloc _ _).alloc _ _).alloc _ _
 have bS : Blk w3 w.heap.size #[.int .i64 s.rows, .int .i64 s.cols, .slice sa sn sc] 26 := by rw [hw3]; exact ((Blk.new w _ _).alloc _).alloc _
 have bF : Blk w3 (w.heap.size + 1) #[.int .i64 f.rows, .int .i64 f.cols, .slice fa fn fc] 26 := by rw [hw3]; exact (Blk.newAt _ _ _ (by simp)).alloc _
 have bZ : Blk w3 (w.heap.size + 1 + 1) #[.int .i64 0, .int .i64 0, .slice none 0 0] 26 := by rw [hw3]; exact Blk.newAt _ _ _ (by simp)
 have hltZ3 := bZ.lt
 have Hw3 := Lib.hid hw3; clear hw3
 go_enter Tryz.func22, Tryz.ntmps22
 go_wp2_with fail
 rw [← Hw3.out]
 refine (iBasisOf_c (hVS.grow hG3) hbs).mono ?_
 rintro e w4 ⟨bv, rfl, hB, hG4⟩
 have hbB := basB_bd s
 have hyes := tz_yes (s := s) (f := f)
 have hno := tz_no (s := s) (f := f)
 have hsh := tz_shape (s := s) (f := f)
 have htz : tz1 s f = (basOk s && (stackOk f (basB s) && kerOk (stackB f (basB s)))) := rfl
 have hmP := stackB_mat f (basB s)
 generalize basB s = B at *
 obtain ⟨ba, bn, bc, rfl, oB, rB, fB, ib1, ib2⟩ := hB
 have hGa := (Grow.refl w4).alloc #[.int .i64 B.rows, .int .i64 B.cols, .slice ba bn bc] 26
 have bB := Blk.new w4 #[.int .i64 B.rows, .int .i64 B.cols, .slice ba bn bc] 26
 have vB : VM _ (fun _ => True) _ B := ⟨ba, bn, bc, rfl, (oB.rdI (fun _ _ => trivial) rB).grow hGa, ib1, ib2⟩
 have bZ4 := bZ.grow hG4
 have hG34 := hG3.trans hG4
 have hs4 := hG4.size
 have hlt4 := bZ4.lt
 cases hok : basOk s with
 | false =>
  have Hz := Lib.hid (hno (by rw [htz, hok]; rfl))
  clear hok oB rB bB vB hyes hno hsh htz
  have bZ3 := (bZ4).grow hGa
  obtain ⟨⟨z0, z1, z2⟩, g0, g1, g2⟩ := bZ3.three
  obtain ⟨⟨y0, y1, y2⟩, f0, f1, f2⟩ := (bZ4).three
  have hlt := (bZ4).lt
  have hne : w.heap.size + 1 + 1 ≠ w4.heap.size := by omega
  have h1 : w.heap.size ≤ w.heap.size + 1 + 1 := by omega
  go_wp2
  exact ret_cell_tmp T_mat rfl rfl rfl (((((bZ4).set 0 _).set 1 _).set 2 _).alloc _) ⟨_, by rw [Hz.out.1]; rfl, by rw [Hz.out.2]; exact OM.zero, ((((hG34).setCell h1 _).setCell h1 _).setCell h1 _).alloc _ _⟩
 | true =>
  have hGt := hG34.trans hGa
  have bF4 := (bF.grow hG4).grow hGa
  have hltF := bF4.lt
  have hltF4 := (bF.grow hG4).lt
  obtain ⟨⟨b0, b1, b2⟩, -⟩ := bB.three
  obtain ⟨⟨f0, f1, f2⟩, -⟩ := bF4.three
  go_wp2_with fail
  refine (iStackRows_c (hVF.grow hGt) vB hbf (by omega)).mono ?_
  rintro e w5 ⟨pv, rfl, hP, hG5⟩
  have hbP := isMatB_bd hmP
  have hbK := kerB_bd (stackB f B)
  generalize stackB f B = M at *
  obtain ⟨pa, pn, pc, rfl, oP, rP, fP, ip1, ip2⟩ := hP
  have hGb := (Grow.refl w5).alloc #[.int .i64 M.rows, .int .i64 M.cols, .slice pa pn pc] 26
  have bP := Blk.new w5 #[.int .i64 M.rows, .int .i64 M.cols, .slice pa pn pc] 26
  have vP : VM _ (fun _ => True) _ M := ⟨pa, pn, pc, rfl, (oP.rdI (fun _ _ => trivial) rP).grow hGb, ip1, ip2⟩
  have bZ5 := (bZ4.grow hGa).grow hG5
  have hG35 := hGt.trans hG5
  have hsa := hGa.size
  have hs5 := hG5.size
  have hlt5 := bZ5.lt
  clear b0 b1 b2 f0 f1 f2 oP oB
  cases hok2 : stackOk f B with
  | false =>
   have Hz := Lib.hid (hno (by rw [htz, hok, hok2]; rfl))
   clear hok hok2 bB bP vP vB hyes hno hsh htz
   have bZ3 := (bZ5).grow hGb
   obtain ⟨⟨z0, z1, z2⟩, g0, g1, g2⟩ := bZ3.three
   obtain ⟨⟨y0, y1, y2⟩, f0, f1, f2⟩ := (bZ5).three
   have hlt := (bZ5).lt
   have hne : w.heap.size + 1 + 1 ≠ w5.heap.size := by omega
   have h1 : w.heap.size ≤ w.heap.size + 1 + 1 := by omega
   go_wp2
   exact ret_cell_tmp T_mat rfl rfl rfl (((((bZ5).set 0 _).set 1 _).set 2 _).alloc _) ⟨_, by rw [Hz.out.1]; rfl, by rw [Hz.out.2]; exact OM.zero, ((((hG35).setCell h1 _).setCell h1 _).setCell h1 _).alloc _ _⟩
  | true =>
   obtain ⟨⟨p0, p1, p2⟩, -⟩ := bP.three
   have hGu := hG35.trans hGb
   go_wp2_with fail
   refine (iKernelOf_c vP (by omega)).mono ?_
   rintro e w6 ⟨kv, rfl, hK6, hG6⟩
   generalize hKB : kerB M = KM at *
   obtain ⟨ka, kn, kc, rfl, oK, rK, fK, ik1, ik2⟩ := hK6
   have hGc := (Grow.refl w6).alloc #[.int .i64 KM.rows, .int .i64 KM.cols, .slice ka kn kc] 26
   have bK := Blk.new w6 #[.int .i64 KM.rows, .int .i64 KM.cols, .slice ka kn kc] 26
   have bZ6 := (bZ5.grow hGb).grow hG6
   have hG36 := hGu.trans hG6
   have hsb := hGb.size
   have hs6 := hG6.size
   have hlt6 := bZ6.lt
   clear p0 p1 p2
   cases hok3 : kerOk M with
   | false =>
    have Hz := Lib.hid (hno (by rw [htz, hok, hok2, hok3]; rfl))
    clear hok hok2 hok3 bB bP bK vP vB hyes hno hsh htz
    have bZ3 := (bZ6).grow hGc
    obtain ⟨⟨z0, z1, z2⟩, g0, g1, g2⟩ := bZ3.three
    obtain ⟨⟨y0, y1, y2⟩, f0, f1, f2⟩ := (bZ6).three
    have hlt := (bZ6).lt
    have hne : w.heap.size + 1 + 1 ≠ w6.heap.size := by omega
    have h1 : w.heap.size ≤ w.heap.size + 1 + 1 := by omega
    go_wp2
    exact ret_cell_tmp T_mat rfl rfl rfl (((((bZ6).set 0 _).set 1 _).set 2 _).alloc _) ⟨_, by rw [Hz.out.1]; rfl, by rw [Hz.out.2]; exact OM.zero, ((((hG36).setCell h1 _).setCell h1 _).setCell h1 _).alloc _ _⟩
   | true =>
    have htt : tz1 s f = true := by rw [htz, hok, hok2, hok3]; rfl
    clear hok hok2 hok3 htz vP vB
    obtain ⟨F, R, N, b, hFr, hFR, hk, hC⟩ := hsh htt
    obtain rfl : KM = { rows := (N : Int), cols := (R : Int), cells := b } := by rw [← hKB]; exact hk.eq
    have hklen := hk.len
    have hknum := hk.num
    have hkR := hk.hR
    have hkN := hk.hN
    simp only at oK rK
    have bF6 := ((bF4.grow hG5).grow hGb).grow hG6
    have hltF6 := bF6.lt
    have bF6a := bF6.grow hGc
    rw [hFr] at bF6 bF6a
    rw [hC] at hyes
    have Hy := Lib.hid (hyes htt)
    have hNF : N * F ≤ 24 * 24 := Nat.mul_le_mul hkN (by omega)
    have hCl := cutL_len (n := F) hklen hFR (Nat.le_refl N)
    have hCn := cutL_num (K := R) (n := F) hknum N
    have Hkl := Lib.hid hklen; have Hcl := Lib.hid hCl
    have hGv := hG36.trans hGc
    clear hyes hno hsh hC hk hFr hKB hmP hbP hbK hklen hCl htt
    obtain ⟨⟨k0, k1, k2⟩, -⟩ := bK.three
    obtain ⟨⟨f0, f1, f2⟩, -⟩ := bF6a.three
    have rKa := (oK.rdI (S := fun _ => True) (fun _ _ => trivial) rK).grow hGc
    go_wp2_with fail
    refine (firstCols_c ka kn kc R N F b _ rKa Hkl.out hkN hkR hFR).mono ?_
    rintro e w7 ⟨ca, cc, rfl, oC, loC, hG7⟩
    have vC : VM w7 (fun _ => True) _ { rows := (N : Int), cols := (F : Int), cells := cutL b R F N } := ⟨ca, _, cc, rfl, oC.rdI (fun _ _ => trivial) (num_rng hCn), by show I64 (N : Int); unfold I64; omega, by show I64 (F : Int); unfold I64; omega⟩
    clear k0 k1 k2 f0 f1 f2
    go_wp2_with fail
    refine (iBasisOf_c vC (by unfold bdM; simp only; rw [Hcl.out]; omega)).mono ?_
    rintro e w8 ⟨r, rfl, hR8, hG8⟩
    obtain ⟨ra, rn, rc, rfl, oR, rR, fR, i1, i2⟩ := hR8
    generalize basB { rows := (N : Int), cols := (F : Int), cells := cutL b R F N } = BM at *
    have hsc := hGc.size
    have hs7 := hG7.size
    have hGl := (hGv.trans hG7).trans hG8
    have bZl := (((bZ6.grow hGc).grow hG7).grow hG8)
    obtain ⟨⟨z0, z1, z2⟩, g0, g1, g2⟩ := bZl.three
    have hltl := bZl.lt
    have hKs : Keep (fun q => q ≠ w.heap.size + 1 + 1) w8 (((w8.setCell ⟨w.heap.size + 1 + 1, 0, none⟩ (.int .i64 BM.rows)).setCell ⟨w.heap.size + 1 + 1, 1, none⟩ (.int .i64 BM.cols)).setCell ⟨w.heap.size + 1 + 1, 2, none⟩ (.slice ra rn rc)) :=
     (((Keep.refl _ w8).setCell (fun _ e => e rfl) _).setCell (fun _ e => e rfl) _).setCell (fun _ e => e rfl) _
    have hof := oR.keep hKs (fun g hg _ e => by have := (fR g hg).1; omega)
    have hGf := (hGl).keep hKs (fun q hq => by omega)
    go_wp2
    refine ret_cell_tmp T_mat rfl rfl rfl (((bZl.set 0 _).set 1 _).set 2 _) ⟨_, by rw [Hy.out.1]; rfl, by rw [Hy.out.2]; exact ⟨ra, rn, rc, rfl, hof, rR, fun g hg => ⟨by have := (fR g hg).1; omega, hof.lt hg⟩, i1, i2⟩, hGf⟩
end Go.Proofs.YtoiblknchcoecaaGreat

namespace Go.Proofs.YtoiblknchcoecaaGreat
open Go.RowKit
end Go.Proofs.YtoiblknchcoecaaGreat

namespace Go.Proofs.YtoiblknchcoecaaGreat
open Go.RowKit
end Go.Proofs.YtoiblknchcoecaaGreat
