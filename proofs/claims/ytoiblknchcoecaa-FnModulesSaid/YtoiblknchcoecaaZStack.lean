/-
  StackRows: the program's and the reference's.
-/
import Derived.Test.YtoiblknchcoecaaZBasI
import Derived.Laws.CopyOwn
import Derived.Test.YtoiblknchcoecaaZKer
import Derived.Test.YtoiblknchcoecaaZBase
import Derived.Test.YtoiblknchcoecaaZInts
import Derived.Test.YtoiblknchcoecaaZOrder
import Derived.Test.YtoiblknchcoecaaZNorm
set_option maxHeartbeats 8000000
set_option maxRecDepth 100000
namespace Go.Proofs.Ytoiblknchcoecaa
open Go.RowKit
def stackOk (a b : Mat) : Bool := isMatB a && (isMatB b && (decide (a.cols = b.cols) && decide (a.rows + b.rows ≤ 24)))
def stackB (a b : Mat) : Mat := if stackOk a b = true then { rows := a.rows + b.rows, cols := a.cols, cells := a.cells ++ b.cells } else { rows := 0, cols := 0, cells := [] }
theorem stack_no {a b : Mat} (h : stackOk a b = false) : stackOk a b = false ∧ stackB a b = { rows := 0, cols := 0, cells := [] } := by
 unfold stackB; rw [h]; exact ⟨rfl, rfl⟩
theorem stack_yes {a b : Mat} (h : stackOk a b = true) : stackOk a b = true ∧ stackB a b = { rows := a.rows + b.rows, cols := a.cols, cells := a.cells ++ b.cells } := by
 unfold stackB; rw [h]; exact ⟨rfl, rfl⟩
theorem stackB_mat (a b : Mat) : isMatB (stackB a b) = true := by
 cases h : stackOk a b with
 | false => rw [(stack_no h).2]; rfl
 | true =>
  rw [(stack_yes h).2]
  unfold stackOk at h
  simp only [Bool.and_eq_true, decide_eq_true_eq] at h
  obtain ⟨h1, h2, h3, h4⟩ := h
  obtain ⟨R, C, e1, e2, hR, hC, hl, hn⟩ := isMatB_shape h1
  obtain ⟨R', C', e1', e2', hR', hC', hl', hn'⟩ := isMatB_shape h2
  have hcc : C = C' := by omega
  subst hcc
  have := isMatB_ok (R := R + R') (C := C) (l := a.cells ++ b.cells) (by omega) hC (by rw [List.length_append, hl, hl', Nat.add_mul]) (fun x hx => (List.mem_append.1 hx).elim (hn x) (hn' x))
  rw [e1, e1', e2]
  simpa using this
theorem isMatB_bd {m : Mat} (h : isMatB m = true) : bdM m ≤ 576 := by
 obtain ⟨R, C, _, _, hR, hC, hl, _⟩ := isMatB_shape h
 have hRC : R * C ≤ 24 * 24 := Nat.mul_le_mul hR hC
 unfold bdM; omega
theorem iStackRows_c {S T : Nat → Prop} {u v : Value} {A B : Mat} {w : World} (hA : VM w S u A) (hB : VM w T v B) (hbA : bdM A ≤ 1048576) (hbB : bdM B ≤ 1048576) :
  Calls Try.prog 30 #[u, v] w fun e w' => ∃ r, e = .returned (.tuple #[r, .bool (stackOk A B)]) ∧ OM w' (New w w') r (stackB A B) ∧ Grow w w' := by
 have hVA := hA; have hVB := hB
 obtain ⟨aa, an, ac, rfl, hA, ia1, ia2⟩ := hA
 obtain ⟨ba, bn, bc, rfl, hB, ib1, ib2⟩ := hB
 obtain ⟨w3, hw3⟩ : ∃ w3, w3 = ((w.alloc (.cells #[.int .i64 A.rows, .int .i64 A.cols, .slice aa an ac] 26)).alloc (.cells #[.int .i64 B.rows, .int .i64 B.cols, .slice ba bn bc] 26)).alloc (.cells #[.int .i64 0, .int .i64 0, .slice none 0 0] 26) := ⟨_, rfl⟩
 have hG3 : Grow w w3 := by rw [hw3]; exact (((Grow.refl w).alloc _ _).alloc _ _).alloc _ _
 have bA : Blk w3 w.heap.size #[.int .i64 A.rows, .int .i64 A.cols, .slice aa an ac] 26 := by rw [hw3]; exact ((Blk.new w _ _).alloc _).alloc _
 have bB : Blk w3 (w.heap.size + 1) #[.int .i64 B.rows, .int .i64 B.cols, .slice ba bn bc] 26 := by rw [hw3]; exact (Blk.newAt _ _ _ (by simp)).alloc _
 have bR : Blk w3 (w.heap.size + 1 + 1) #[.int .i64 0, .int .i64 0, .slice none 0 0] 26 := by rw [hw3]; exact Blk.newAt _ _ _ (by simp)
 have Hw3 := Lib.hid hw3; clear hw3
 go_enter Try.func30, Try.ntmps30
 go_wp2_with fail
 rw [← Hw3.out]
 refine (isMatrix_c (hVA.grow hG3) (by omega)).mono ?_
 rintro e w4 ⟨rfl, hG4⟩
 have bB4 := bB.grow hG4
 obtain ⟨⟨y0, y1, y2⟩, -⟩ := bB4.three
 have hltB := bB4.lt
 cases hmA : isMatB A with
 | false =>
  have Hz := Lib.hid (stack_no (a := A) (b := B) (by unfold stackOk; rw [hmA]; rfl))
  have bRz := bR.grow hG4
  have hGz := hG3.trans hG4
  clear hmA
  obtain ⟨⟨z0, z1, z2⟩, g0, g1, g2⟩ := bRz.three
  have hltz := bRz.lt
  have h1 : w.heap.size ≤ w.heap.size + 1 + 1 := by omega
  go_wp2
  exact ret_cell_tmp T_mat rfl rfl rfl (((bRz.set 0 _).set 1 _).set 2 _) ⟨_, by rw [Hz.out.1]; rfl, by rw [Hz.out.2]; exact OM.zero, ((hGz.setCell h1 _).setCell h1 _).setCell h1 _⟩
 | true =>
  have HmA := Lib.hid hmA
  go_wp2_with fail
  refine (isMatrix_c ((hVB.grow hG3).grow hG4) (by omega)).mono ?_
  rintro e w5 ⟨rfl, hG5⟩
  have bRz := (bR.grow hG4).grow hG5
  have hGz := (hG3.trans hG4).trans hG5
  have bA5 := (bA.grow hG4).grow hG5
  have bB5 := bB4.grow hG5
  clear y0 y1 y2 hltB
  cases hmB : isMatB B with
  | false =>
   have Hz := Lib.hid (stack_no (a := A) (b := B) (by unfold stackOk; rw [hmB]; simp))
   clear hmB hmA
   obtain ⟨⟨z0, z1, z2⟩, g0, g1, g2⟩ := bRz.three
   have hltz := bRz.lt
   have h1 : w.heap.size ≤ w.heap.size + 1 + 1 := by omega
   go_wp2
   exact ret_cell_tmp T_mat rfl rfl rfl (((bRz.set 0 _).set 1 _).set 2 _) ⟨_, by rw [Hz.out.1]; rfl, by rw [Hz.out.2]; exact OM.zero, ((hGz.setCell h1 _).setCell h1 _).setCell h1 _⟩
  | true =>
   obtain ⟨R, C, e1, e2, hR, hC, hl, hn⟩ := isMatB_shape hmA
   obtain ⟨R', C', e1', e2', hR', hC', hl', hn'⟩ := isMatB_shape hmB
   have hcs := stack_no (a := A) (b := B)
   have hys := stack_yes (a := A) (b := B)
   have hok : stackOk A B = (decide ((C : Int) = C') && decide ((R : Int) + R' ≤ 24)) := by unfold stackOk; rw [hmA, hmB, e2, e2', e1, e1']; rfl
   have Hno := Lib.hid hcs; have Hys := Lib.hid hys; have Hok := Lib.hid hok
   clear hcs hys hok hmA hmB HmA
   obtain ⟨ar, acc, ca⟩ := A
   obtain ⟨br, bcc, cb⟩ := B
   simp only at e1 e2 e1' e2' hl hl' hn hn' hA hB
   subst e1; subst e2; subst e1'; subst e2'
   obtain ⟨⟨x0, x1, x2⟩, -⟩ := bA5.three
   obtain ⟨⟨y0, y1, y2⟩, -⟩ := bB5.three
   have hltA := bA5.lt
   have hltB := bB5.lt
   have Hl := Lib.hid hl; have Hl' := Lib.hid hl'; clear hl hl'
   by_cases hcol : C = C'
   ·subst hcol
    have q2 : ((C : Int) != (C : Int)) = false := by simp
    by_cases hsum : 24 < R + R'
    ·have Hz := Lib.hid (Hno.out (by rw [Hok.out, decide_eq_true rfl, decide_eq_false (by omega)]; rfl))
     obtain ⟨⟨z0, z1, z2⟩, g0, g1, g2⟩ := bRz.three
     have hltz := bRz.lt
     have h1 : w.heap.size ≤ w.heap.size + 1 + 1 := by omega
     go_wp2
     exact ret_cell_tmp T_mat rfl rfl rfl (((bRz.set 0 _).set 1 _).set 2 _) ⟨_, by rw [Hz.out.1]; rfl, by rw [Hz.out.2]; exact OM.zero, ((hGz.setCell h1 _).setCell h1 _).setCell h1 _⟩
    ·have Hy := Lib.hid (Hys.out (by rw [Hok.out, decide_eq_true rfl, decide_eq_true (by omega)]; rfl))
     have rA := ((hA.grow hG3).grow hG4).grow hG5
     have rB := ((hB.grow hG3).grow hG4).grow hG5
     have hla := rA.len
     have hlb := rB.len
     have hRC : R * C ≤ 24 * 24 := Nat.mul_le_mul hR hC
     have hRC' : R' * C ≤ 24 * 24 := Nat.mul_le_mul hR' hC
     have han : an ≤ 576 := by have := Hl.out; omega
     have hbn : bn ≤ 576 := by have := Hl'.out; omega
     have hltR := bRz.lt
     have hs5 := hGz.size
     clear hla hlb hRC hRC'
     simp only at x0 x1 x2 y0 y1 y2
     go_wp2
     refine wp_region_segs (S := (Keep (fun q => q ≠ w.heap.size + 1 + 1) w5)) [([0, 1, 2, 3, 4, 5, 6, 8, 9, 11, 12], some 7), ([], some 10), ([], some 13), ([], some 14), ([], some 15), ([16], none)] P_mixed (by kernel_rfl) (fun _ _ _ _ _ h => h) (Keep.refl _ _).drew ?_
     show wpQuiet _ _ _ _ [_, _, _, _, _, _, _, _, _, _, _] _
     repeat (first | go_big_quiet_skip | (go_big_quiet_want; first | (apply quiet_load CT_int; rfl; rfl; exact (fun w' hG => hG.cell (by simp <;> omega) x0); go_big_quiet_on; simp only [Act.put, List.setIfInBounds_toArray, List.set_cons_succ, List.set_cons_zero]) | (apply quiet_load CT_int; rfl; rfl; exact (fun w' hG => hG.cell (by simp <;> omega) y0); go_big_quiet_on; simp only [Act.put, List.setIfInBounds_toArray, List.set_cons_succ, List.set_cons_zero]) | (apply quiet_load CT_int; rfl; rfl; exact (fun w' hG => hG.cell (by simp <;> omega) x1); go_big_quiet_on; simp only [Act.put, List.setIfInBounds_toArray, List.set_cons_succ, List.set_cons_zero]) | (apply quiet_load CT_ints; rfl; rfl; exact (fun w' hG => hG.cell (by simp <;> omega) x2); go_big_quiet_on; simp only [Act.put, List.setIfInBounds_toArray, List.set_cons_succ, List.set_cons_zero]) | (apply quiet_load CT_ints; rfl; rfl; exact (fun w' hG => hG.cell (by simp <;> omega) y2); go_big_quiet_on; simp only [Act.put, List.setIfInBounds_toArray, List.set_cons_succ, List.set_cons_zero]) | (go_big_quiet_op; first | go_big_quiet_on | (refine ⟨_, (fun _ _ => rfl), ?_⟩; go_big_quiet_on))))
     refine wpQuiet_nil ?_
     obtain ⟨w7, hw7⟩ : ∃ w7, w7 = w5.drew := ⟨_, rfl⟩
     rw [← hw7]
     have hG7 : Grow w5 w7 := by rw [hw7]; exact (Grow.refl _).drew
     clear hw7
     refine seg_go rfl (fun K hK => ?_)
     refine par_built0 rfl T_ints ?_
     have hE : Own (w7.alloc (.cells #[] 3)) 3 1 (some ⟨w7.heap.size, 0, none⟩) 0 0 [] := Own.freshAt rfl (by unfold maxLen; omega) rfl
     refine hK _ _ ((hG7.alloc _ _).mono fun _ _ _ => trivial) ?_
     clear hK K
     show wpQuiet _ _ _ _ [] _
     try (conv => arg 6; simp only [Act.put, List.setIfInBounds_toArray, List.set_cons_succ, List.set_cons_zero])
     refine wpQuiet_nil ?_
     refine seg_go rfl (fun K hK => ?_)
     refine op_app rfl T_ints rfl hE rfl (rA.row.grow (hG7.alloc _ _)) (ints_one _) (by omega) (by unfold maxLen; omega) ?_
     intro a8 c8 w8 hA8
     have hs7 := hG7.size
     have hG8 : Grow w5 w8 := hA8.grow (hG7.alloc _ _) (fun g hg => by simp at hg; omega)
     have hl8 := hA8.lo (B := w5.heap.size) (by simp; omega) (fun g hg => by simp at hg; omega)
     have hO8 : Own w8 3 1 a8 an c8 (ints ca) := by have := hA8.own; simpa [ints] using this
     have hs8 := hG8.size
     clear hA8 hE
     rw [Nat.zero_add]
     refine hK _ _ (hG8.mono fun _ _ _ => trivial) ?_
     clear hK K
     show wpQuiet _ _ _ _ [] _
     try (conv => arg 6; simp only [Act.put, List.setIfInBounds_toArray, List.set_cons_succ, List.set_cons_zero])
     refine wpQuiet_nil ?_
     refine seg_go rfl (fun K hK => ?_)
     refine op_app rfl T_ints rfl hO8 rfl (rB.row.grow hG8) (ints_one _) (by omega) (by unfold maxLen; omega) ?_
     intro a9 c9 w9 hA9
     have hG9 : Grow w5 w9 := hA9.grow hG8 (fun g hg => hl8 g hg)
     have hl9 := hA9.lo (B := w5.heap.size) (by omega) hl8
     have hO9 : Own w9 3 1 a9 (an + bn) c9 (ints (ca ++ cb)) := by have := hA9.own; simpa [ints] using this
     have bR9 := bRz.grow hG9
     clear hA9 hO8
     refine hK _ _ (hG9.mono fun _ _ _ => trivial) ?_
     clear hK K
     show wpQuiet _ _ _ _ [] _
     try (conv => arg 6; simp only [Act.put, List.setIfInBounds_toArray, List.set_cons_succ, List.set_cons_zero])
     refine wpQuiet_nil ?_
     refine seg_go rfl (fun K hK => ?_)
     go_wp2_with fail
     refine hK _ _ ((hG9.mono fun _ _ _ => trivial)) ?_
     clear hK K
     show wpQuiet _ _ _ _ [] _
     try (conv => arg 6; simp only [Act.put, List.setIfInBounds_toArray, List.set_cons_succ, List.set_cons_zero])
     refine wpQuiet_nil ?_
     refine seg_go rfl (fun K hK => ?_)
     obtain ⟨⟨z0, z1, z2⟩, f0, f1, f2⟩ := bR9.three
     go_wp2_with fail
     have hK9 : Keep (fun q => q ≠ w.heap.size + 1 + 1) w9 (((w9.setCell ⟨w.heap.size + 1 + 1, 0, none⟩ (.int .i64 ((R : Int) + R'))).setCell ⟨w.heap.size + 1 + 1, 1, none⟩ (.int .i64 (C : Int))).setCell ⟨w.heap.size + 1 + 1, 2, none⟩ (.slice a9 (an + bn) c9)) :=
      (((Keep.refl _ w9).setCell (fun _ e => e rfl) _).setCell (fun _ e => e rfl) _).setCell (fun _ e => e rfl) _
     refine hK _ _ (((hG9.mono fun _ _ _ => trivial).trans hK9)) ?_
     clear hK K
     show wpQuiet _ _ _ _ [_] _
     try (conv => arg 6; simp only [Act.put, List.setIfInBounds_toArray, List.set_cons_succ, List.set_cons_zero])
     repeat (first | go_big_quiet_skip | (go_big_quiet_want; first | (apply quiet_load CT_int; rfl; rfl; exact (fun w' hG => hG.cell (by simp <;> omega) x0); go_big_quiet_on; simp only [Act.put, List.setIfInBounds_toArray, List.set_cons_succ, List.set_cons_zero]) | (apply quiet_load CT_int; rfl; rfl; exact (fun w' hG => hG.cell (by simp <;> omega) y0); go_big_quiet_on; simp only [Act.put, List.setIfInBounds_toArray, List.set_cons_succ, List.set_cons_zero]) | (apply quiet_load CT_int; rfl; rfl; exact (fun w' hG => hG.cell (by simp <;> omega) x1); go_big_quiet_on; simp only [Act.put, List.setIfInBounds_toArray, List.set_cons_succ, List.set_cons_zero]) | (apply quiet_load CT_ints; rfl; rfl; exact (fun w' hG => hG.cell (by simp <;> omega) x2); go_big_quiet_on; simp only [Act.put, List.setIfInBounds_toArray, List.set_cons_succ, List.set_cons_zero]) | (apply quiet_load CT_ints; rfl; rfl; exact (fun w' hG => hG.cell (by simp <;> omega) y2); go_big_quiet_on; simp only [Act.put, List.setIfInBounds_toArray, List.set_cons_succ, List.set_cons_zero]) | (go_big_quiet_op; first | go_big_quiet_on | (refine ⟨_, (fun _ _ => rfl), ?_⟩; go_big_quiet_on))))
     refine wpQuiet_nil ?_
     refine wpSegs_nil ?_
     have hof := hO9.keep hK9 (fun g hg _ e => by have := hl9 g hg; omega)
     have hBf := ((bR9.set 0 (.int .i64 ((R : Int) + R'))).set 1 (.int .i64 (C : Int))).set 2 (.slice a9 (an + bn) c9)
     have hGf := (hGz.trans hG9).keep hK9 fun q hq => by omega
     have hnn : NumL (ca ++ cb) := fun x hx => (List.mem_append.1 hx).elim (hn x) (hn' x)
     go_wp2
     refine ret_cell_tmp T_mat rfl rfl rfl hBf ⟨_, by rw [Hy.out.1]; rfl, by rw [Hy.out.2]; exact ⟨a9, an + bn, c9, rfl, hof, num_rng hnn, fun g hg => ⟨by have := hl9 g hg; omega, hof.lt hg⟩, by show I64 ((R : Int) + R'); unfold I64; omega, by show I64 (C : Int); unfold I64; omega⟩, hGf⟩
   ·have q2 : ((C : Int) != (C' : Int)) = true := by simp; omega
    have Hz := Lib.hid (Hno.out (by rw [Hok.out, decide_eq_false (by omega)]; rfl))
    obtain ⟨⟨z0, z1, z2⟩, g0, g1, g2⟩ := bRz.three
    have hltz := bRz.lt
    have h1 : w.heap.size ≤ w.heap.size + 1 + 1 := by omega
    go_wp2
    exact ret_cell_tmp T_mat rfl rfl rfl (((bRz.set 0 _).set 1 _).set 2 _) ⟨_, by rw [Hz.out.1]; rfl, by rw [Hz.out.2]; exact OM.zero, ((hGz.setCell h1 _).setCell h1 _).setCell h1 _⟩
end Go.Proofs.Ytoiblknchcoecaa

namespace Go.Proofs.Ytoiblknchcoecaa
open Go.RowKit
end Go.Proofs.Ytoiblknchcoecaa

namespace Go.Proofs.Ytoiblknchcoecaa
open Go.RowKit
structure Kern (m : Mat) (R N : Nat) (b : List Int) : Prop where
 eq : kerB m = { rows := (N : Int), cols := (R : Int), cells := b }
 rows : m.rows = (R : Int)
 hR : R ≤ 24
 hN : N ≤ 24
 len : b.length = N * R
 num : NumL b
end Go.Proofs.Ytoiblknchcoecaa

namespace Go.Proofs.Ytoiblknchcoecaa
open Go.RowKit
end Go.Proofs.Ytoiblknchcoecaa

namespace Go.Proofs.Ytoiblknchcoecaa
open Go.RowKit
end Go.Proofs.Ytoiblknchcoecaa
