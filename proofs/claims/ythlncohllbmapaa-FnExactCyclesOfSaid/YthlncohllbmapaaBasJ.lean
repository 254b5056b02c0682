/-
  The program's BasisOf.
-/
import Derived.Test.YthlncohllbmapaaHermJ
import Derived.Test.YthlncohllbmapaaBasI
import Derived.Test.YthlncohllbmapaaBasS
namespace Go.Proofs.Ythlncohllbmapaa
open Go.RowKit

theorem herm_rows {cells : List Int} {R C : Nat} (hl : cells.length = R * C) (hm : NumL cells) {s : HS} (h : herm cells R C = some s) :
    lastN s.1 C R ≤ R ∧ (List.range R).filter (nzB s.1 C) = List.range (lastN s.1 C R) ∧ ((List.range (lastN s.1 C R)).map (rowL s.1 C)).flatten = s.1.take (lastN s.1 C R * C) := by
  obtain ⟨hs, t, ht, hE⟩ := herm_spec hl hm h
  have e := ech_last hE R (Nat.le_refl _) ht
  rw [e]
  exact ⟨ht, ech_full hE ht, flat_rows (by rw [hs.la]; exact Nat.mul_le_mul_right _ ht)⟩
set_option maxHeartbeats 4000000 in
set_option maxRecDepth 100000 in
theorem iBasis_no {S : Nat → Prop} {m : Mat} {w : World} {a : Option Addr} {n c : Nat} {mr mc : Int} (hVM : VM w S (.agg #[.int .i64 mr, .int .i64 mc, .slice a n c]) m) (hb : bdM m ≤ 1048576) (hB : isMatB m = false) :
    Calls Try.prog 39 #[.agg #[.int .i64 mr, .int .i64 mc, .slice a n c]] w fun e w' => ∃ r, e = .returned (.tuple #[r, .bool (basOk m)]) ∧ OM w' (New w w') r (basB m) ∧ Grow w w' := by
  have Hz := Lib.hid (basB_none (m := m) (by unfold hermR; rw [hB]; rfl))
  obtain ⟨w3, hw3⟩ : ∃ w3, w3 = (w.alloc (.cells #[.int .i64 mr, .int .i64 mc, .slice a n c] 27)).alloc (.cells #[.int .i64 0, .int .i64 0, .slice none 0 0] 27) := ⟨_, rfl⟩
  have hG : Grow w w3 := by rw [hw3]; exact ((Grow.refl w).alloc _ _).alloc _ _
  have bR : Blk w3 (w.heap.size + 1) #[.int .i64 0, .int .i64 0, .slice none 0 0] 27 := by rw [hw3]; exact Blk.newAt _ _ _ (by simp)
  have Hw3 := Lib.hid hw3; clear hw3
  go_enter Try.func39, Try.ntmps39
  go_wp2_with fail
  rw [← Hw3.out]
  refine (iHermite_no (hVM.grow hG) hb hB).mono ?_
  rintro e w4 ⟨rfl, hG4⟩
  have hZ1 := ((Grow.refl w4).alloc #[.int .i64 0, .int .i64 0, .slice none 0 0] 27).alloc #[.int .i64 0, .int .i64 0, .slice none 0 0] 27
  have bR5 := (bR.grow hG4).grow hZ1
  have hltR : w.heap.size + 1 < w4.heap.size := (bR.grow hG4).lt
  have hG5 := (hG.trans hG4).trans hZ1
  obtain ⟨⟨a0, a1, a2⟩, f0, f1, f2⟩ := bR5.three
  have h1 : w.heap.size ≤ w.heap.size + 1 := by omega
  go_wp2
  exact ret_cell_tmp T_mat rfl rfl rfl (((bR5.set 0 _).set 1 _).set 2 _) ⟨_, by rw [Hz.out.1]; rfl, by rw [Hz.out.2]; exact OM.zero, ((hG5.setCell h1 _).setCell h1 _).setCell h1 _⟩
set_option maxHeartbeats 4000000 in
set_option maxRecDepth 100000 in
theorem iBasis_yes {S : Nat → Prop} {w : World} {a : Option Addr} {n c R C : Nat} {cells : List Int} (h : RdI w S a n c cells) (hl : cells.length = R * C) (hnum : NumL cells) (hR : R ≤ 24) (hC : C ≤ 24) :
    Calls Try.prog 39 #[.agg #[.int .i64 R, .int .i64 C, .slice a n c]] w fun e w' => ∃ r, e = .returned (.tuple #[r, .bool (basOk { rows := (R : Int), cols := (C : Int), cells := cells })]) ∧ OM w' (New w w') r (basB { rows := (R : Int), cols := (C : Int), cells := cells }) ∧ Grow w w' := by
  have hB := isMatB_ok hR hC hl hnum
  obtain ⟨mr, hmr⟩ : ∃ mr : Int, mr = R := ⟨_, rfl⟩
  obtain ⟨mc, hmc⟩ : ∃ mc : Int, mc = C := ⟨_, rfl⟩
  have hb1 := fun s => basB_some (s := s) hB
  have hb2 := fun hn : herm cells R C = none => basB_none (m := { rows := (R : Int), cols := (C : Int), cells := cells }) (by rw [hermR_mat hB]; exact hn)
  have Hb1 := Lib.hid hb1; have Hb2 := Lib.hid hb2
  clear hb1 hb2 hB
  generalize hM : ({ rows := (R : Int), cols := (C : Int), cells := cells } : Mat) = M at *
  clear hM
  rw [← hmr, ← hmc]
  obtain ⟨w3, hw3⟩ : ∃ w3, w3 = (w.alloc (.cells #[.int .i64 mr, .int .i64 mc, .slice a n c] 27)).alloc (.cells #[.int .i64 0, .int .i64 0, .slice none 0 0] 27) := ⟨_, rfl⟩
  have hG : Grow w w3 := by rw [hw3]; exact ((Grow.refl w).alloc _ _).alloc _ _
  have bR : Blk w3 (w.heap.size + 1) #[.int .i64 0, .int .i64 0, .slice none 0 0] 27 := by rw [hw3]; exact Blk.newAt _ _ _ (by simp)
  have Hw3 := Lib.hid hw3; clear hw3
  subst hmr
  subst hmc
  go_enter Try.func39, Try.ntmps39
  go_wp2_with fail
  rw [← Hw3.out]
  refine (iHermite_yes (h.grow hG) hl hnum hR hC).mono ?_
  rintro e w4 ⟨hG4, (⟨hn, rfl⟩ | ⟨s, aa, ca, au, cu, hs, rfl, rA, rU⟩)⟩
  · have Hz := Lib.hid (Hb2.out hn)
    clear hn
    have hZ1 := ((Grow.refl w4).alloc #[.int .i64 0, .int .i64 0, .slice none 0 0] 27).alloc #[.int .i64 0, .int .i64 0, .slice none 0 0] 27
    have bR5 := (bR.grow hG4).grow hZ1
    have hltR : w.heap.size + 1 < w4.heap.size := (bR.grow hG4).lt
    have hG5 := (hG.trans hG4).trans hZ1
    obtain ⟨⟨a0, a1, a2⟩, f0, f1, f2⟩ := bR5.three
    have h1 : w.heap.size ≤ w.heap.size + 1 := by omega
    go_wp2
    exact ret_cell_tmp T_mat rfl rfl rfl (((bR5.set 0 _).set 1 _).set 2 _) ⟨_, by rw [Hz.out.1]; rfl, by rw [Hz.out.2]; exact OM.zero, ((hG5.setCell h1 _).setCell h1 _).setCell h1 _⟩
  · have Hy := Lib.hid (Hb1.out s hs)
    have hsp := (herm_spec hl hnum hs).1
    obtain ⟨htR, hf1, hf2⟩ := herm_rows hl hnum hs
    have hltR : w.heap.size + 1 < w4.heap.size := (bR.grow hG4).lt
    obtain ⟨w5, hw5⟩ : ∃ w5, w5 = (w4.alloc (.cells #[.int .i64 (R : Int), .int .i64 (C : Int), .slice aa (R * C) ca] 27)).alloc (.cells #[.int .i64 (R : Int), .int .i64 (R : Int), .slice au (R * R) cu] 27) := ⟨_, rfl⟩
    have hG5 : Grow w4 w5 := by rw [hw5]; exact ((Grow.refl w4).alloc _ _).alloc _ _
    have bH : Blk w5 w4.heap.size #[.int .i64 (R : Int), .int .i64 (C : Int), .slice aa (R * C) ca] 27 := by rw [hw5]; exact (Blk.new w4 _ _).alloc _
    obtain ⟨⟨a0, a1, a2⟩, -⟩ := bH.three
    rw [hw5] at a0 a1 a2
    have Hw5 := Lib.hid hw5; clear hw5
    have rA5 := rA.grow hG5
    have bR5 := (bR.grow hG4).grow hG5
    clear rA rU hs
    go_wp2_with fail
    rw [← Hw5.out]
    refine (splitRows_c aa _ ca C R s.1 _ rA5 hsp.la hR hC).mono ?_
    rintro e w6 ⟨a1', a2', n1, n2, c1, c2, rfl, hP, hG6⟩
    rw [hf1] at hP
    generalize lastN s.1 C R = t at *
    have rI := hP.oa.rdI (S := fun _ => True) (fun _ _ => trivial) (natI_rng (l := List.range t) (fun x hx => by have := List.mem_range.1 hx; omega))
    have hn1 : n1 = t := by have := rI.len; unfold natI at this; simpa using this.symm
    subst hn1
    have bH6 := bH.grow hG6
    obtain ⟨⟨a0, a1, a2⟩, -⟩ := bH6.three
    have rA6 := rA5.grow hG6
    have bR6 := bR5.grow hG6
    have hGt := ((hG.trans hG4).trans hG5).trans hG6
    clear hP hf1
    have hlt6 : w.heap.size + 1 < w6.heap.size := bR6.lt
    go_wp2_with fail
    refine (takeRows_c aa a1' _ ca n1 c1 C R s.1 (List.range n1) _ rA6 hsp.la hR hC rI (fun x hx => by have := List.mem_range.1 hx; omega) (by simp; omega)).mono ?_
    rintro e w7 ⟨a', c', rfl, hO7, hlo7, hG7⟩
    rw [hf2] at hO7
    have bR7 := bR6.grow hG7
    have hs6 := hGt.size
    obtain ⟨⟨b0, b1, b2⟩, f0, f1, f2⟩ := bR7.three
    have hK9 : Keep (fun q => q ≠ w.heap.size + 1) w7 (((w7.setCell ⟨w.heap.size + 1, 0, none⟩ (.int .i64 (n1 : Int))).setCell ⟨w.heap.size + 1, 1, none⟩ (.int .i64 (C : Int))).setCell ⟨w.heap.size + 1, 2, none⟩ (.slice a' (n1 * C) c')) :=
      (((Keep.refl _ w7).setCell (fun _ e => e rfl) _).setCell (fun _ e => e rfl) _).setCell (fun _ e => e rfl) _
    have hof := hO7.keep hK9 (fun g hg _ e => by have := hlo7 g hg; omega)
    have hBf := ((bR7.set 0 (.int .i64 (n1 : Int))).set 1 (.int .i64 (C : Int))).set 2 (.slice a' (n1 * C) c')
    have hGf := (hGt.trans hG7).keep hK9 fun q hq => by omega
    go_wp2
    refine ret_cell_tmp T_mat rfl rfl rfl hBf ⟨_, by rw [Hy.out.1]; rfl, by rw [Hy.out.2]; exact ⟨a', n1 * C, c', rfl, hof, fun x hx => num_rng hsp.na x (List.mem_of_mem_take hx), fun g hg => ⟨by have := hlo7 g hg; omega, hof.lt hg⟩, by show I64 (n1 : Int); unfold I64; omega, by show I64 (C : Int); unfold I64; omega⟩, hGf⟩
theorem iBasisOf_c {S : Nat → Prop} {v : Value} {m : Mat} {w : World} (h : VM w S v m) (hb : bdM m ≤ 1048576) :
    Calls Try.prog 39 #[v] w fun e w' => ∃ r, e = .returned (.tuple #[r, .bool (basOk m)]) ∧ OM w' (New w w') r (basB m) ∧ Grow w w' := by
  have hVM := h
  obtain ⟨a, n, c, rfl, h, hr, hc⟩ := h
  cases hB : isMatB m with
  | false => exact iBasis_no hVM hb hB
  | true =>
    obtain ⟨R, C, hmr, hmc, hR, hC, hl, hnum⟩ := isMatB_shape hB
    obtain ⟨mr, mc, cells⟩ := m
    simp only at hmr hmc hl hnum
    subst hmr
    subst hmc
    exact iBasis_yes h hl hnum hR hC
end Go.Proofs.Ythlncohllbmapaa
