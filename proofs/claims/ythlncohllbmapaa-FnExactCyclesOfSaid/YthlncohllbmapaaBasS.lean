/-
  The reference's BasisOf.
-/
import Derived.Test.YthlncohllbmapaaHermT
import Derived.Test.YthlncohllbmapaaBasR
namespace Go.Proofs.Ythlncohllbmapaa
open Go.RowKit

def basOk (m : Mat) : Bool := hermOk m
def basB (m : Mat) : Mat := match hermR m with
  | some s => { rows := lastN s.1 m.cols.toNat m.rows.toNat, cols := m.cols, cells := s.1.take (lastN s.1 m.cols.toNat m.rows.toNat * m.cols.toNat) }
  | none => { rows := 0, cols := 0, cells := [] }
def pre0 (m : List Int) (C i k : Nat) : Bool := (List.range k).any fun q => cell m C i q != 0
theorem pre0_succ (m : List Int) (C i k : Nat) : pre0 m C i (k + 1) = (pre0 m C i k || (cell m C i k != 0)) := by unfold pre0; rw [List.range_succ, List.any_append]; simp
def rowsIn (m : List Int) (C i k : Nat) : Nat := if pre0 m C i k = true then i + 1 else lastN m C i
theorem lastN_le (m : List Int) (C : Nat) : ∀ n, lastN m C n ≤ n
  | 0 => Nat.le_refl _
  | n + 1 => by have := lastN_le m C n; simp only [lastN]; split <;> omega
theorem rowsIn_le (m : List Int) (C i k : Nat) : rowsIn m C i k ≤ i + 1 := by have := lastN_le m C i; unfold rowsIn; split <;> omega
set_option maxHeartbeats 2000000 in
set_option maxRecDepth 100000 in
theorem l12Rows_c {S : Nat → Prop} (a : Option Addr) (n cp C R : Nat) (m : List Int) (w : World) (h : RdI w S a n cp m) (hl : m.length = R * C) (hR : R ≤ 24) (hC : C ≤ 24) :
    Calls Try.prog 74 #[.agg #[.int .i64 R, .int .i64 C, .slice a n cp]] w fun e w' => e = .returned (.int .i64 (lastN m C R)) ∧ Grow w w' := by
  have hnl := h.len
  obtain ⟨w2, hw2⟩ : ∃ w2, w2 = w.alloc (.cells #[.int .i64 (R : Int), .int .i64 (C : Int), .slice a n cp] 27) := ⟨_, rfl⟩
  have hG2 : Grow w w2 := by rw [hw2]; exact (Grow.refl w).alloc _ _
  have bM : Blk w2 w.heap.size #[.int .i64 (R : Int), .int .i64 (C : Int), .slice a n cp] 27 := by rw [hw2]; exact Blk.new w _ _
  have Hw2 := Lib.hid hw2; clear hw2
  have Hl := Lib.hid hl; have Hnl := Lib.hid hnl; clear hl hnl
  replace h := h.grow hG2
  go_enter Try.func74, Try.ntmps74
  go_wp2
  rw [← Hw2.out]
  go_loopw [3, 4] (fun u q wr => Grow w2 wr ∧ ∃ i : Nat, i ≤ R ∧ q = .int .i64 i ∧ u = .int .i64 (lastN m C i)) (fun _ q _ => R - (intOf q).toNat)
  case atStart => exact ⟨Grow.refl _, 0, Nat.zero_le _, rfl, rfl⟩
  case round =>
    obtain ⟨hG, i, hi, rfl, rfl⟩ := hrel
    have bMr := bM.grow hG
    obtain ⟨⟨a0, a1, a2⟩, -⟩ := bMr.three
    have hltM := bMr.lt
    have hll := lastN_le m C i
    by_cases hiR : i < R
    · have h0 := Lib.hid (show rowsIn m C i 0 = lastN m C i by unfold rowsIn pre0; simp)
      have hE := Lib.hid (show rowsIn m C i C = lastN m C (i + 1) from rfl)
      go_wp2
      go_loopw [3, 5] (fun u q v => Grow w2 v ∧ ∃ k : Nat, k ≤ C ∧ q = .int .i64 k ∧ u = .int .i64 (rowsIn m C i k)) (fun _ q _ => C - (intOf q).toNat)
      case atStart => exact ⟨hG, 0, Nat.zero_le _, rfl, by rw [h0.out]⟩
      case round =>
        clear a0 a1 a2 hltM bMr hG
        obtain ⟨hG, k, hk, rfl, rfl⟩ := hrel
        have bMr := bM.grow hG
        obtain ⟨⟨a0, a1, a2⟩, -⟩ := bMr.three
        have hltM := bMr.lt
        have hrl := rowsIn_le m C i k
        by_cases hkC : k < C
        · have hni : i * C + k < n := by rw [← Hnl.out, Hl.out]; exact place_lt hkC hiR
          have hps := pre0_succ m C i k
          go_wp2_with fail
          refine (l12Cell_c a n cp C i k (R : Int) m _ (h.grow hG) hni (by omega) (by omega) (by omega)).mono ?_
          rintro e w3 ⟨rfl, hG3⟩
          by_cases hx0 : cell m C i k = 0
          · have Hs := Lib.hid (show rowsIn m C i (k + 1) = rowsIn m C i k by unfold rowsIn; rw [hps, hx0]; simp)
            rw [hx0]
            clear hni hps hx0
            go_wp2
            go_roundw
            case rel => exact ⟨hG.trans hG3, k + 1, by omega, by go_num, by rw [Hs.out]⟩
            case measure => simp [intOf]; omega
          · have q3 : (cell m C i k != 0) = true := by simpa using hx0
            have Hs := Lib.hid (show rowsIn m C i (k + 1) = i + 1 by unfold rowsIn; rw [hps, q3]; simp)
            clear hni hps
            go_wp2
            go_roundw
            case rel => exact ⟨hG.trans hG3, k + 1, by omega, by go_num, by rw [Hs.out] <;> try go_num⟩
            case measure => simp [intOf]; omega
        · have hkc : k = C := by omega
          subst hkc
          go_wp2
          go_roundw
          case rel => exact ⟨hG, i + 1, by omega, by go_num, by rw [hE.out]⟩
          case measure => simp [intOf]; omega
    · have hir : i = R := by omega
      subst hir
      go_wp2
      go_ret
      exact ⟨rfl, hG2.trans hG⟩
theorem basB_none {m : Mat} (h : hermR m = none) : basOk m = false ∧ basB m = { rows := 0, cols := 0, cells := [] } := by
  unfold basOk basB; rw [h]; exact ⟨(hermR_none h).1, rfl⟩
theorem hermR_mat {R C : Nat} {cells : List Int} (hB : isMatB { rows := (R : Int), cols := (C : Int), cells := cells } = true) : hermR { rows := (R : Int), cols := (C : Int), cells := cells } = herm cells R C := by
  unfold hermR; rw [hB]; rfl
theorem basB_some {R C : Nat} {cells : List Int} {s : HS} (hB : isMatB { rows := (R : Int), cols := (C : Int), cells := cells } = true) (h : herm cells R C = some s) :
    basOk { rows := (R : Int), cols := (C : Int), cells := cells } = true ∧ basB { rows := (R : Int), cols := (C : Int), cells := cells } = { rows := (lastN s.1 C R : Nat), cols := (C : Int), cells := s.1.take (lastN s.1 C R * C) } := by
  have h1 := hermR_mat hB
  rw [h] at h1
  unfold basOk basB; rw [h1]; exact ⟨(hermR_some h1).1, rfl⟩
set_option maxHeartbeats 4000000 in
set_option maxRecDepth 100000 in
theorem sBasis_no {S : Nat → Prop} {m : Mat} {w : World} {a : Option Addr} {n c : Nat} {mr mc : Int} (hVM : VM w S (.agg #[.int .i64 mr, .int .i64 mc, .slice a n c]) m) (hb : bdM m ≤ 1048576) (hB : isMatB m = false) :
    Calls Try.prog 37 #[.agg #[.int .i64 mr, .int .i64 mc, .slice a n c]] w fun e w' => ∃ r, e = .returned (.tuple #[r, .bool (basOk m)]) ∧ OM w' (New w w') r (basB m) ∧ Grow w w' := by
  have Hz := Lib.hid (basB_none (m := m) (by unfold hermR; rw [hB]; rfl))
  obtain ⟨w3, hw3⟩ : ∃ w3, w3 = (w.alloc (.cells #[.int .i64 mr, .int .i64 mc, .slice a n c] 27)).alloc (.cells #[.int .i64 0, .int .i64 0, .slice none 0 0] 27) := ⟨_, rfl⟩
  have hG : Grow w w3 := by rw [hw3]; exact ((Grow.refl w).alloc _ _).alloc _ _
  have bR : Blk w3 (w.heap.size + 1) #[.int .i64 0, .int .i64 0, .slice none 0 0] 27 := by rw [hw3]; exact Blk.newAt _ _ _ (by simp)
  have Hw3 := Lib.hid hw3; clear hw3
  go_enter Try.func37, Try.ntmps37
  go_wp2_with fail
  rw [← Hw3.out]
  refine (sHermite_no (hVM.grow hG) hb hB).mono ?_
  rintro e w4 ⟨rfl, hG4⟩
  have hZ1 := ((Grow.refl w4).alloc #[.int .i64 0, .int .i64 0, .slice none 0 0] 27).alloc #[.int .i64 0, .int .i64 0, .slice none 0 0] 27
  have bR5 := (bR.grow hG4).grow hZ1
  have hltR : w.heap.size + 1 < w4.heap.size := (bR.grow hG4).lt
  have hG5 := (hG.trans hG4).trans hZ1
  obtain ⟨⟨a0, a1, a2⟩, f0, f1, f2⟩ := bR5.three
  have h1 : w.heap.size ≤ w.heap.size + 1 := by omega
  go_wp2
  exact ret_cell_tmp T_mat rfl rfl rfl (((bR5.set 0 _).set 1 _).set 2 _) ⟨_, by rw [Hz.out.1]; rfl, by rw [Hz.out.2]; exact OM.zero, ((hG5.setCell h1 _).setCell h1 _).setCell h1 _⟩
set_option maxHeartbeats 4000000 in
set_option maxRecDepth 100000 in
theorem sBasis_yes {S : Nat → Prop} {w : World} {a : Option Addr} {n c R C : Nat} {cells : List Int} (h : RdI w S a n c cells) (hl : cells.length = R * C) (hnum : NumL cells) (hR : R ≤ 24) (hC : C ≤ 24) :
    Calls Try.prog 37 #[.agg #[.int .i64 R, .int .i64 C, .slice a n c]] w fun e w' => ∃ r, e = .returned (.tuple #[r, .bool (basOk { rows := (R : Int), cols := (C : Int), cells := cells })]) ∧ OM w' (New w w') r (basB { rows := (R : Int), cols := (C : Int), cells := cells }) ∧ Grow w w' := by
  have hB := isMatB_ok hR hC hl hnum
  obtain ⟨mr, hmr⟩ : ∃ mr : Int, mr = R := ⟨_, rfl⟩
  obtain ⟨mc, hmc⟩ : ∃ mc : Int, mc = C := ⟨_, rfl⟩
  have hb1 := fun s => basB_some (s := s) hB
  have hb2 := fun hn : herm cells R C = none => basB_none (m := { rows := (R : Int), cols := (C : Int), cells := cells }) (by rw [hermR_mat hB]; exact hn)
  have Hb1 := Lib.hid hb1; have Hb2 := Lib.hid hb2
  clear hb1 hb2 hB
  generalize hM : ({ rows := (R : Int), cols := (C : Int), cells := cells } : Mat) = M at *
  clear hM
  rw [← hmr, ← hmc]
  obtain ⟨w3, hw3⟩ : ∃ w3, w3 = (w.alloc (.cells #[.int .i64 mr, .int .i64 mc, .slice a n c] 27)).alloc (.cells #[.int .i64 0, .int .i64 0, .slice none 0 0] 27) := ⟨_, rfl⟩
  have hG : Grow w w3 := by rw [hw3]; exact ((Grow.refl w).alloc _ _).alloc _ _
  have bR : Blk w3 (w.heap.size + 1) #[.int .i64 0, .int .i64 0, .slice none 0 0] 27 := by rw [hw3]; exact Blk.newAt _ _ _ (by simp)
  have Hw3 := Lib.hid hw3; clear hw3
  subst hmr
  subst hmc
  go_enter Try.func37, Try.ntmps37
  go_wp2_with fail
  rw [← Hw3.out]
  refine (sHermite_yes (h.grow hG) hl hnum hR hC).mono ?_
  rintro e w4 ⟨hG4, (⟨hn, rfl⟩ | ⟨s, aa, ca, au, cu, hs, rfl, rA, rU⟩)⟩
  · have Hz := Lib.hid (Hb2.out hn)
    clear hn
    have hZ1 := ((Grow.refl w4).alloc #[.int .i64 0, .int .i64 0, .slice none 0 0] 27).alloc #[.int .i64 0, .int .i64 0, .slice none 0 0] 27
    have bR5 := (bR.grow hG4).grow hZ1
    have hltR : w.heap.size + 1 < w4.heap.size := (bR.grow hG4).lt
    have hG5 := (hG.trans hG4).trans hZ1
    obtain ⟨⟨a0, a1, a2⟩, f0, f1, f2⟩ := bR5.three
    have h1 : w.heap.size ≤ w.heap.size + 1 := by omega
    go_wp2
    exact ret_cell_tmp T_mat rfl rfl rfl (((bR5.set 0 _).set 1 _).set 2 _) ⟨_, by rw [Hz.out.1]; rfl, by rw [Hz.out.2]; exact OM.zero, ((hG5.setCell h1 _).setCell h1 _).setCell h1 _⟩
  · have Hy := Lib.hid (Hb1.out s hs)
    have hsp := (herm_spec hl hnum hs).1
    have htR : lastN s.1 C R ≤ R := lastN_le _ _ _
    have hltR : w.heap.size + 1 < w4.heap.size := (bR.grow hG4).lt
    obtain ⟨w5, hw5⟩ : ∃ w5, w5 = (w4.alloc (.cells #[.int .i64 (R : Int), .int .i64 (C : Int), .slice aa (R * C) ca] 27)).alloc (.cells #[.int .i64 (R : Int), .int .i64 (R : Int), .slice au (R * R) cu] 27) := ⟨_, rfl⟩
    have hG5 : Grow w4 w5 := by rw [hw5]; exact ((Grow.refl w4).alloc _ _).alloc _ _
    have bH : Blk w5 w4.heap.size #[.int .i64 (R : Int), .int .i64 (C : Int), .slice aa (R * C) ca] 27 := by rw [hw5]; exact (Blk.new w4 _ _).alloc _
    obtain ⟨⟨a0, a1, a2⟩, -⟩ := bH.three
    rw [hw5] at a0 a1 a2
    have Hw5 := Lib.hid hw5; clear hw5
    have rA5 := rA.grow hG5
    have bR5 := (bR.grow hG4).grow hG5
    clear rA rU hs
    go_wp2_with fail
    rw [← Hw5.out]
    refine (l12Rows_c aa _ ca C R s.1 _ rA5 hsp.la hR hC).mono ?_
    rintro e w6 ⟨rfl, hG6⟩
    have bH6 := bH.grow hG6
    obtain ⟨⟨a0, a1, a2⟩, -⟩ := bH6.three
    have rA6 := rA5.grow hG6
    have bR6 := bR5.grow hG6
    have hGt := ((hG.trans hG4).trans hG5).trans hG6
    generalize lastN s.1 C R = t at *
    have htC : t * C ≤ R * C := Nat.mul_le_mul_right _ htR
    have hRC : R * C ≤ 24 * 24 := Nat.mul_le_mul hR hC
    have hca := rA6.row.le
    have u1 := mul_wrap (i := t) (c := C) (by omega) (by omega)
    have r1 := T_ints.atH (a := aa) (n := R * C) (cap := ca) (k := t * C) (i := (t : Int) * C) (by simp) (by omega)
    have rp := rA6.pre htC
    have hs6 := hGt.size
    have hlt6 : w.heap.size + 1 < w6.heap.size := by have := bR6.lt; omega
    go_wp2
    refine wp_region_segs (S := (Keep (fun q => q ≠ w.heap.size + 1) w6)) [([0, 1, 2, 4, 5, 6, 7, 8, 9, 10], some 3), ([], some 11), ([], some 12), ([], some 13), ([14], none)] P_mixed (by kernel_rfl) (fun _ _ _ _ _ h => h) (Keep.refl _ _).drew ?_
    show wpQuiet _ _ _ _ [_, _, _, _, _, _, _, _, _, _] _
    repeat (first | go_big_quiet_skip | (go_big_quiet_want; first | (apply quiet_load CT_int; rfl; rfl; exact (fun w' hG => hG.cell (by simp; omega) a1); go_big_quiet_on; simp only [Act.put, List.setIfInBounds_toArray, List.set_cons_succ, List.set_cons_zero]) | (apply quiet_load CT_ints; rfl; rfl; exact (fun w' hG => hG.cell (by simp; omega) a2); go_big_quiet_on; simp only [Act.put, List.setIfInBounds_toArray, List.set_cons_succ, List.set_cons_zero]) | (apply quiet_sliceH (x := .tmp 24) (h := .tmp 28); rfl; exact r1; go_big_quiet_on; simp only [Act.put, List.setIfInBounds_toArray, List.set_cons_succ, List.set_cons_zero]) | (go_big_quiet_op; first | go_big_quiet_on | (refine ⟨_, (fun _ _ => rfl), ?_⟩; go_big_quiet_on))))
    refine wpQuiet_nil ?_
    obtain ⟨w7, hw7⟩ : ∃ w7, w7 = w6.drew := ⟨_, rfl⟩
    rw [← hw7]
    have hG7 : Grow w6 w7 := by rw [hw7]; exact (Grow.refl _).drew
    clear hw7
    refine seg_go rfl (fun K hK => ?_)
    refine par_built0 rfl T_ints ?_
    have hE : Own (w7.alloc (.cells #[] 3)) 3 1 (some ⟨w7.heap.size, 0, none⟩) 0 0 [] := Own.freshAt rfl (by unfold maxLen; omega) rfl
    refine hK _ _ ((hG7.alloc _ _).mono fun _ _ _ => trivial) ?_
    clear hK K
    show wpQuiet _ _ _ _ [] _
    try (conv => arg 6; simp only [Act.put, List.setIfInBounds_toArray, List.set_cons_succ, List.set_cons_zero])
    refine wpQuiet_nil ?_
    refine seg_go rfl (fun K hK => ?_)
    refine op_app rfl T_ints rfl hE rfl (rp.row.grow (hG7.alloc _ _)) (ints_one _) (by omega) (by unfold maxLen; omega) ?_
    intro a8 c8 w8 hA8
    have hs7 := hG7.size
    have hG8 : Grow w6 w8 := hA8.grow (hG7.alloc _ _) (fun g hg => by simp at hg; omega)
    have hl8 := hA8.lo (B := w6.heap.size) (by simp; omega) (fun g hg => by simp at hg; omega)
    have hO8 : Own w8 3 1 a8 (t * C) c8 (ints (s.1.take (t * C))) := by have := hA8.own; simpa [ints] using this
    have bR8 := bR6.grow hG8
    clear hA8 hE
    rw [Nat.zero_add]
    refine hK _ _ (hG8.mono fun _ _ _ => trivial) ?_
    clear hK K
    show wpQuiet _ _ _ _ [] _
    try (conv => arg 6; simp only [Act.put, List.setIfInBounds_toArray, List.set_cons_succ, List.set_cons_zero])
    refine wpQuiet_nil ?_
    refine seg_go rfl (fun K hK => ?_)
    go_wp2_with fail
    refine hK _ _ ((hG8.mono fun _ _ _ => trivial)) ?_
    clear hK K
    show wpQuiet _ _ _ _ [] _
    try (conv => arg 6; simp only [Act.put, List.setIfInBounds_toArray, List.set_cons_succ, List.set_cons_zero])
    refine wpQuiet_nil ?_
    refine seg_go rfl (fun K hK => ?_)
    obtain ⟨⟨b0, b1, b2⟩, f0, f1, f2⟩ := bR8.three
    go_wp2_with fail
    have hK9 : Keep (fun q => q ≠ w.heap.size + 1) w8 (((w8.setCell ⟨w.heap.size + 1, 0, none⟩ (.int .i64 (t : Int))).setCell ⟨w.heap.size + 1, 1, none⟩ (.int .i64 (C : Int))).setCell ⟨w.heap.size + 1, 2, none⟩ (.slice a8 (t * C) c8)) :=
      (((Keep.refl _ w8).setCell (fun _ e => e rfl) _).setCell (fun _ e => e rfl) _).setCell (fun _ e => e rfl) _
    refine hK _ _ (((hG8.mono fun _ _ _ => trivial).trans hK9)) ?_
    clear hK K
    show wpQuiet _ _ _ _ [_] _
    try (conv => arg 6; simp only [Act.put, List.setIfInBounds_toArray, List.set_cons_succ, List.set_cons_zero])
    repeat (first | go_big_quiet_skip | (go_big_quiet_want; first | (apply quiet_load CT_int; rfl; rfl; exact (fun w' hG => hG.cell (by simp; omega) a1); go_big_quiet_on; simp only [Act.put, List.setIfInBounds_toArray, List.set_cons_succ, List.set_cons_zero]) | (apply quiet_load CT_ints; rfl; rfl; exact (fun w' hG => hG.cell (by simp; omega) a2); go_big_quiet_on; simp only [Act.put, List.setIfInBounds_toArray, List.set_cons_succ, List.set_cons_zero]) | (apply quiet_sliceH (x := .tmp 24) (h := .tmp 28); rfl; exact r1; go_big_quiet_on; simp only [Act.put, List.setIfInBounds_toArray, List.set_cons_succ, List.set_cons_zero]) | (go_big_quiet_op; first | go_big_quiet_on | (refine ⟨_, (fun _ _ => rfl), ?_⟩; go_big_quiet_on))))
    refine wpQuiet_nil ?_
    refine wpSegs_nil ?_
    have hof := hO8.keep hK9 (fun g hg _ e => by have := hl8 g hg; omega)
    have hBf := ((bR8.set 0 (.int .i64 (t : Int))).set 1 (.int .i64 (C : Int))).set 2 (.slice a8 (t * C) c8)
    have hGf := (hGt.trans hG8).keep hK9 fun q hq => by omega
    go_wp2
    refine ret_cell_tmp T_mat rfl rfl rfl hBf ⟨_, by rw [Hy.out.1]; rfl, by rw [Hy.out.2]; exact ⟨a8, t * C, c8, rfl, hof, fun x hx => num_rng hsp.na x (List.mem_of_mem_take hx), fun g hg => ⟨by have := hl8 g hg; omega, hof.lt hg⟩, by show I64 (t : Int); unfold I64; omega, by show I64 (C : Int); unfold I64; omega⟩, hGf⟩
theorem sBasisOf_c {S : Nat → Prop} {v : Value} {m : Mat} {w : World} (h : VM w S v m) (hb : bdM m ≤ 1048576) :
    Calls Try.prog 37 #[v] w fun e w' => ∃ r, e = .returned (.tuple #[r, .bool (basOk m)]) ∧ OM w' (New w w') r (basB m) ∧ Grow w w' := by
  have hVM := h
  obtain ⟨a, n, c, rfl, h, hr, hc⟩ := h
  cases hB : isMatB m with
  | false => exact sBasis_no hVM hb hB
  | true =>
    obtain ⟨R, C, hmr, hmc, hR, hC, hl, hnum⟩ := isMatB_shape hB
    obtain ⟨mr, mc, cells⟩ := m
    simp only at hmr hmc hl hnum
    subst hmr
    subst hmc
    exact sBasis_yes h hl hnum hR hC
end Go.Proofs.Ythlncohllbmapaa
