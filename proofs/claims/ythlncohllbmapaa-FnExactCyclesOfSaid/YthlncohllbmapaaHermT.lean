/-
  The reference's HermiteForm.
-/
import Derived.Test.YthlncohllbmapaaHermS
import Derived.Test.YthlncohllbmapaaMulS
namespace Go.Proofs.Ythlncohllbmapaa
open Go.RowKit

/-- What HermiteForm gives. -/
def hermR (m : Mat) : Option HS := if isMatB m = true then herm m.cells m.rows.toNat m.cols.toNat else none
def hermOk (m : Mat) : Bool := (hermR m).isSome
def hermA (m : Mat) : Mat := match hermR m with | some s => { rows := m.rows, cols := m.cols, cells := s.1 } | none => { rows := 0, cols := 0, cells := [] }
def hermU (m : Mat) : Mat := match hermR m with | some s => { rows := m.rows, cols := m.rows, cells := s.2 } | none => { rows := 0, cols := 0, cells := [] }
theorem hermR_none {m : Mat} (h : hermR m = none) : hermOk m = false ∧ hermA m = { rows := 0, cols := 0, cells := [] } ∧ hermU m = { rows := 0, cols := 0, cells := [] } := by
  unfold hermOk hermA hermU; rw [h]; exact ⟨rfl, rfl, rfl⟩
theorem hermR_some {m : Mat} {s : HS} (h : hermR m = some s) : hermOk m = true ∧ hermA m = { rows := m.rows, cols := m.cols, cells := s.1 } ∧ hermU m = { rows := m.rows, cols := m.rows, cells := s.2 } := by
  unfold hermOk hermA hermU; rw [h]; exact ⟨rfl, rfl, rfl⟩
theorem isMatB_ok {R C : Nat} {l : List Int} (hR : R ≤ 24) (hC : C ≤ 24) (hl : l.length = R * C) (h : NumL l) : isMatB { rows := R, cols := C, cells := l } = true := by
  unfold isMatB shapeB
  rw [show numsB l = true from List.all_eq_true.2 fun x hx => isNumB_iff.2 (h x hx), Bool.and_true, decide_eq_true_eq]
  exact ⟨by simp, by simp; omega, by simp, by simp; omega, by simp [hl]⟩
theorem VM.zero {w : World} {S : Nat → Prop} : VM w S (.agg #[.int .i64 0, .int .i64 0, .slice none 0 0]) { rows := 0, cols := 0, cells := [] } :=
  ⟨none, 0, 0, rfl, ⟨⟨rfl, Nat.le_refl _, by unfold maxLen; omega, fun _ => rfl, fun h => (h rfl).elim⟩, fun x hx => by cases hx⟩, by show I64 0; unfold I64; omega, by show I64 0; unfold I64; omega⟩
/-- A return with two struct results and a slot. -/
theorem ret_cells_tmp {P : Program} {fn : Func} {R : Ending → World → Prop} {a : Act} {w : World} {ty : TypeId} {cs ds : Array Value} {p q u : Tmp} {g g' : Nat} {t : TypeId} (hT : StT P ty cs.size) (hT' : StT P ty ds.size) (h : fn.results = #[.cell p ty, .cell q ty, .tmp u]) (hd : a.defers = []) (hp : a.tmps.getD p undef = .pointer (some ⟨g, 0, none⟩)) (hq : a.tmps.getD q undef = .pointer (some ⟨g', 0, none⟩))
    (hb : Blk w g cs t) (hb' : Blk w g' ds t) (hR : R (.returned (.tuple #[.agg cs, .agg ds, a.tmps.getD u undef])) w) : bodyPost P fn R .ret a w := by
  have hp' : a.tmps[p]?.getD undef = .pointer (some ⟨g, 0, none⟩) := by simpa using hp
  have hq' : a.tmps[q]?.getD undef = .pointer (some ⟨g', 0, none⟩) := by simpa using hq
  refine bodyPost_ret (v := .tuple #[.agg cs, .agg ds, a.tmps.getD u undef]) ?_ hd hR
  simp [results, h, hp', hq', asAddr, hT.load hb, hT'.load hb']
theorem herm_rng {m : List Int} {R C : Nat} (hl : m.length = R * C) (hm : NumL m) {s : HS} (h : herm m R C = some s) : Hs C R s := (herm_spec hl hm h).1

set_option maxHeartbeats 4000000 in
set_option maxRecDepth 100000 in
theorem sHermite_no {S : Nat → Prop} {m : Mat} {w : World} {a : Option Addr} {n c : Nat} {mr mc : Int} (hVM : VM w S (.agg #[.int .i64 mr, .int .i64 mc, .slice a n c]) m) (hb : bdM m ≤ 1048576) (hB : isMatB m = false) :
    Calls Try.prog 73 #[.agg #[.int .i64 mr, .int .i64 mc, .slice a n c]] w fun e w' => e = .returned (.tuple #[.agg #[.int .i64 0, .int .i64 0, .slice none 0 0], .agg #[.int .i64 0, .int .i64 0, .slice none 0 0], .bool false]) ∧ Grow w w' := by
  obtain ⟨w3, hw3⟩ : ∃ w3, w3 = ((w.alloc (.cells #[.int .i64 mr, .int .i64 mc, .slice a n c] 27)).alloc (.cells #[.int .i64 0, .int .i64 0, .slice none 0 0] 27)).alloc (.cells #[.int .i64 0, .int .i64 0, .slice none 0 0] 27) := ⟨_, rfl⟩
  have hG : Grow w w3 := by rw [hw3]; exact (((Grow.refl w).alloc _ _).alloc _ _).alloc _ _
  have bM : Blk w3 w.heap.size #[.int .i64 mr, .int .i64 mc, .slice a n c] 27 := by rw [hw3]; exact ((Blk.new w _ _).alloc _).alloc _
  have bR1 : Blk w3 (w.heap.size + 1) #[.int .i64 0, .int .i64 0, .slice none 0 0] 27 := by rw [hw3]; exact (Blk.newAt _ _ _ (by simp)).alloc _
  have bR2 : Blk w3 (w.heap.size + 1 + 1) #[.int .i64 0, .int .i64 0, .slice none 0 0] 27 := by rw [hw3]; exact Blk.newAt _ _ _ (by simp)
  have Hw3 := Lib.hid hw3; clear hw3
  have HB := Lib.hid hB; clear hB
  go_enter Try.func73, Try.ntmps73
  go_wp2_with fail
  rw [← Hw3.out]
  refine (sIsMatrix_c (hVM.grow hG) (by omega)).mono ?_
  rintro e w4 ⟨rfl, hG4⟩
  rw [HB.out]
  replace bR1 := bR1.grow hG4
  replace bR2 := bR2.grow hG4
  replace hG := hG.trans hG4
  obtain ⟨⟨a0, a1, a2⟩, f0, f1, f2⟩ := bR1.three
  obtain ⟨⟨b0, b1, b2⟩, g0, g1, g2⟩ := bR2.three
  go_wp2
  have h1 : w.heap.size ≤ w.heap.size + 1 := by omega
  have h2 : w.heap.size ≤ w.heap.size + 1 + 1 := by omega
  refine ret_cells_tmp T_mat T_mat rfl rfl rfl rfl ((((((bR1.set 0 _).set 1 _).set 2 _).other (by simp) _).other (by simp) _).other (by simp) _) ((((((bR2.other (by simp) _).other (by simp) _).other (by simp) _).set 0 _).set 1 _).set 2 _) ?_
  exact ⟨rfl, (((((hG.setCell h1 _).setCell h1 _).setCell h1 _).setCell h2 _).setCell h2 _).setCell h2 _⟩
set_option maxHeartbeats 4000000 in
set_option maxRecDepth 100000 in
theorem sHermite_yes {S : Nat → Prop} {w : World} {a : Option Addr} {n c R C : Nat} {cells : List Int} (h : RdI w S a n c cells) (hl : cells.length = R * C) (hnum : NumL cells) (hR : R ≤ 24) (hC : C ≤ 24) :
    Calls Try.prog 73 #[.agg #[.int .i64 R, .int .i64 C, .slice a n c]] w fun e w' => Grow w w' ∧ ((herm cells R C = none ∧ e = .returned (.tuple #[.agg #[.int .i64 0, .int .i64 0, .slice none 0 0], .agg #[.int .i64 0, .int .i64 0, .slice none 0 0], .bool false])) ∨
      ∃ s aa ca au cu, herm cells R C = some s ∧ e = .returned (.tuple #[.agg #[.int .i64 R, .int .i64 C, .slice aa (R * C) ca], .agg #[.int .i64 R, .int .i64 R, .slice au (R * R) cu], .bool true]) ∧ RdI w' (fun q => w.heap.size ≤ q) aa (R * C) ca s.1 ∧ RdI w' (fun q => w.heap.size ≤ q) au (R * R) cu s.2) := by
  have hRC : R * C ≤ 24 * 24 := Nat.mul_le_mul hR hC
  have hRR : R * R ≤ 24 * 24 := Nat.mul_le_mul hR hR
  have hB := isMatB_ok hR hC hl hnum
  obtain ⟨mr, hmr⟩ : ∃ mr : Int, mr = R := ⟨_, rfl⟩
  obtain ⟨mc, hmc⟩ : ∃ mc : Int, mc = C := ⟨_, rfl⟩
  have hVM : VM w S (.agg #[.int .i64 R, .int .i64 C, .slice a n c]) { rows := (R : Int), cols := (C : Int), cells := cells } := ⟨a, n, c, rfl, h, by show I64 (R : Int); unfold I64; omega, by show I64 (C : Int); unfold I64; omega⟩
  rw [← hmr, ← hmc] at hVM hB ⊢
  obtain ⟨w3, hw3⟩ : ∃ w3, w3 = ((w.alloc (.cells #[.int .i64 mr, .int .i64 mc, .slice a n c] 27)).alloc (.cells #[.int .i64 0, .int .i64 0, .slice none 0 0] 27)).alloc (.cells #[.int .i64 0, .int .i64 0, .slice none 0 0] 27) := ⟨_, rfl⟩
  have hG : Grow w w3 := by rw [hw3]; exact (((Grow.refl w).alloc _ _).alloc _ _).alloc _ _
  have bM : Blk w3 w.heap.size #[.int .i64 mr, .int .i64 mc, .slice a n c] 27 := by rw [hw3]; exact ((Blk.new w _ _).alloc _).alloc _
  have bR1 : Blk w3 (w.heap.size + 1) #[.int .i64 0, .int .i64 0, .slice none 0 0] 27 := by rw [hw3]; exact (Blk.newAt _ _ _ (by simp)).alloc _
  have bR2 : Blk w3 (w.heap.size + 1 + 1) #[.int .i64 0, .int .i64 0, .slice none 0 0] 27 := by rw [hw3]; exact Blk.newAt _ _ _ (by simp)
  have Hw3 := Lib.hid hw3; clear hw3
  subst hmr
  subst hmc
  have HB := Lib.hid hB; clear hB
  go_enter Try.func73, Try.ntmps73
  go_wp2_with fail
  rw [← Hw3.out]
  refine (sIsMatrix_c (hVM.grow hG) (by unfold bdM; simp; omega)).mono ?_
  rintro e w4 ⟨rfl, hG4⟩
  rw [HB.out]
  have bM4 := bM.grow hG4
  obtain ⟨⟨a0, a1, a2⟩, -⟩ := bM4.three
  go_wp2_with fail
  refine (l3Copy_c ((hVM.grow hG).grow hG4) (by unfold bdM; simp; omega)).mono ?_
  rintro e w5 ⟨va, rfl, hA, hG5⟩
  obtain ⟨aa, na, ca, rfl, oA, rA, fA, iA1, iA2⟩ := hA
  replace oA : Own w5 3 1 aa na ca (ints cells) := oA
  have hna : na = R * C := by have := oA.len; simp at this; omega
  subst hna
  clear iA1 iA2 a0 a1 a2
  have bX := Blk.new w5 #[.int .i64 (R : Int), .int .i64 (C : Int), .slice aa (R * C) ca] 27
  have hGX := (Grow.refl w5).alloc #[.int .i64 (R : Int), .int .i64 (C : Int), .slice aa (R * C) ca] 27
  have hG45 := (hG4.trans hG5).trans hGX
  have oA5 := oA.grow hGX
  have bM5 := bM.grow hG45
  obtain ⟨⟨a0, a1, a2⟩, -⟩ := bM5.three
  have hlt5 : w.heap.size < w5.heap.size := (bM4.grow hG5).lt
  have hlR : w.heap.size + 1 + 1 < w4.heap.size := (bR2.grow hG4).lt
  have hs45 := hG5.size
  have fA' : ∀ q, blk aa = some q → w.heap.size + 1 + 1 < q := fun q hq => by have := (fA q hq).1; omega
  have naX : blk aa ≠ some w5.heap.size := fun e => by have := oA.lt e; omega
  clear oA bM4 bM fA
  go_wp2_with fail
  refine (sIdentity_c R _ hR).mono ?_
  rintro e w6 ⟨au, rfl, oU, fU, hG6⟩
  have oA6 := oA5.grow hG6
  have bX6 := bX.grow hG6
  have hs6 := hG6.size
  have hs6' : w5.heap.size < w6.heap.size := by simp at hs6; omega
  have fU' : ∀ q, blk au = some q → w5.heap.size < q := fun q hq => by have := fU q hq; simp at this; omega
  have hGU := (Grow.refl w6).alloc #[.int .i64 (R : Int), .int .i64 (R : Int), .slice au (R * R) (R * R)] 27
  have bU := Blk.new w6 #[.int .i64 (R : Int), .int .i64 (R : Int), .slice au (R * R) (R * R)] 27
  have hne : ∀ q, blk aa = some q → blk au ≠ some q := fun q hq e => by have := oA5.lt hq; have := fU q e; omega
  have nuX : blk au ≠ some w5.heap.size := fun e => by have := fU' _ e; omega
  have naU : blk aa ≠ some w6.heap.size := fun e => by have := oA6.lt e; omega
  have nuU : blk au ≠ some w6.heap.size := fun e => by have := oU.lt e; omega
  have hTwo : Two (w6.alloc (.cells #[.int .i64 (R : Int), .int .i64 (R : Int), .slice au (R * R) (R * R)] 27)) aa au (R * C) (R * R) ca (R * R) (cells, idL R) := ⟨oA6.grow hGU, oU.grow hGU, hne⟩
  have hs0 : Hs C R (cells, idL R) := ⟨hl, idL_len R, hnum, idL_num R⟩
  have bX7 := bX6.grow hGU
  obtain ⟨⟨a0, a1, a2⟩, -⟩ := bX7.three
  obtain ⟨⟨b0, b1, b2⟩, -⟩ := bU.three
  clear oA5 oA6 oU fU hGX bX bX6
  go_wp2_with fail
  refine (l12Hermite_c aa au ca (R * R) R C (cells, idL R) _ hTwo hs0 hR hC).mono ?_
  rintro e w7 ⟨b, s', rfl, hT7, hK7, hyes, hno⟩
  have hGw := ((hG.trans hG45).trans hG6).trans hGU
  have hG7 : Grow w w7 := hGw.keep hK7 (fun q hq => ⟨fun e => by have := fA' q e; omega, fun e => by have := fU' q e; omega⟩)
  have bRa := ((bR1.grow ((hG45.trans hG6).trans hGU)).keep hK7 ⟨fun e => by have := fA' _ e; omega, fun e => by have := fU' _ e; omega⟩)
  have bRb := ((bR2.grow ((hG45.trans hG6).trans hGU)).keep hK7 ⟨fun e => by have := fA' _ e; omega, fun e => by have := fU' _ e; omega⟩)
  replace bX7 := bX7.keep hK7 ⟨naX, nuX⟩
  have bU7 := bU.keep hK7 ⟨naU, nuU⟩
  obtain ⟨⟨a0, a1, a2⟩, f0, f1, f2⟩ := bRa.three
  obtain ⟨⟨b0, b1, b2⟩, g0, g1, g2⟩ := bRb.three
  have hs7 := hG7.size
  clear hG hTwo hs0 hGU bU hG45 hG6 hK7 hGw bR1 bR2
  cases b with
  | false =>
    have Hn := Lib.hid (hno rfl)
    clear hno hyes
    have hG := hG7
    have bR1 := bRa
    have bR2 := bRb
    go_wp2
    have h1 : w.heap.size ≤ w.heap.size + 1 := by omega
    have h2 : w.heap.size ≤ w.heap.size + 1 + 1 := by omega
    refine ret_cells_tmp T_mat T_mat rfl rfl rfl rfl ((((((bR1.set 0 _).set 1 _).set 2 _).other (by simp) _).other (by simp) _).other (by simp) _) ((((((bR2.other (by simp) _).other (by simp) _).other (by simp) _).set 0 _).set 1 _).set 2 _) ?_
    exact ⟨(((((hG.setCell h1 _).setCell h1 _).setCell h1 _).setCell h2 _).setCell h2 _).setCell h2 _, .inl ⟨Hn.out, rfl⟩⟩
  | true =>
    have Hy := Lib.hid (hyes rfl)
    clear hyes hno a0 a1 a2 f0 f1 f2 b0 b1 b2 g0 g1 g2
    have n5 : w5.heap.size ≠ w.heap.size + 1 ∧ w5.heap.size ≠ w.heap.size + 1 + 1 := ⟨by omega, by omega⟩
    have n6 : w6.heap.size ≠ w.heap.size + 1 ∧ w6.heap.size ≠ w.heap.size + 1 + 1 := ⟨by omega, by omega⟩
    go_wp2
    refine wp_region_segs (S := (Keep (fun q => q ≠ w.heap.size + 1 ∧ q ≠ w.heap.size + 1 + 1) w7)) [([0, 1], some 2), ([], some 3), ([4], none)] P_mixed (by kernel_rfl) (fun _ _ _ _ _ h => h) (Keep.refl _ _).drew ?_
    show wpQuiet _ _ _ _ [_, _] _
    repeat (first | go_big_quiet_skip | (go_big_quiet_want; first | (apply quiet_load3 T_mat; rfl; rfl; exact (fun w' hG => bX7.keep hG n5); go_big_quiet_on; simp only [Act.put, List.setIfInBounds_toArray, List.set_cons_succ, List.set_cons_zero]) | (apply quiet_load3 T_mat; rfl; rfl; exact (fun w' hG => bU7.keep hG n6); go_big_quiet_on; simp only [Act.put, List.setIfInBounds_toArray, List.set_cons_succ, List.set_cons_zero]) | (go_big_quiet_op; first | go_big_quiet_on | (refine ⟨_, (fun _ _ => rfl), ?_⟩; go_big_quiet_on))))
    refine wpQuiet_nil ?_
    obtain ⟨w8, hw8⟩ : ∃ w8, w8 = w7.drew := ⟨_, rfl⟩
    rw [← hw8]
    have hG8 : Grow w7 w8 := by rw [hw8]; exact (Grow.refl _).drew
    clear hw8
    have bR8 := bRa.grow hG8
    have bS8 := bRb.grow hG8
    refine seg_go rfl (fun K hK => ?_)
    obtain ⟨⟨a0, a1, a2⟩, f0, f1, f2⟩ := bR8.three
    go_wp2_with fail
    have hK8 : Keep (fun q => q ≠ w.heap.size + 1) w8 (((w8.setCell ⟨w.heap.size + 1, 0, none⟩ (.int .i64 (R : Int))).setCell ⟨w.heap.size + 1, 1, none⟩ (.int .i64 (C : Int))).setCell ⟨w.heap.size + 1, 2, none⟩ (.slice aa (R * C) ca)) :=
      (((Keep.refl _ w8).setCell (fun _ e => e rfl) _).setCell (fun _ e => e rfl) _).setCell (fun _ e => e rfl) _
    have bR9 := ((bR8.set 0 (.int .i64 (R : Int))).set 1 (.int .i64 (C : Int))).set 2 (.slice aa (R * C) ca)
    have bS9 := bS8.keep hK8 (by omega)
    refine hK _ _ (((hG8.mono fun _ _ _ => trivial).trans (hK8.mono fun q _ hb => hb.1))) ?_
    clear hK K
    generalize (((w8.setCell ⟨w.heap.size + 1, 0, none⟩ (.int .i64 (R : Int))).setCell ⟨w.heap.size + 1, 1, none⟩ (.int .i64 (C : Int))).setCell ⟨w.heap.size + 1, 2, none⟩ (.slice aa (R * C) ca)) = w9 at *
    clear a0 a1 a2 f0 f1 f2
    show wpQuiet _ _ _ _ [] _
    try (conv => arg 6; simp only [Act.put, List.setIfInBounds_toArray, List.set_cons_succ, List.set_cons_zero])
    refine wpQuiet_nil ?_
    refine seg_go rfl (fun K hK => ?_)
    obtain ⟨⟨b0, b1, b2⟩, g0, g1, g2⟩ := bS9.three
    go_wp2_with fail
    have hK9 : Keep (fun q => q ≠ w.heap.size + 1 + 1) w9 (((w9.setCell ⟨w.heap.size + 1 + 1, 0, none⟩ (.int .i64 (R : Int))).setCell ⟨w.heap.size + 1 + 1, 1, none⟩ (.int .i64 (R : Int))).setCell ⟨w.heap.size + 1 + 1, 2, none⟩ (.slice au (R * R) (R * R))) :=
      (((Keep.refl _ w9).setCell (fun _ e => e rfl) _).setCell (fun _ e => e rfl) _).setCell (fun _ e => e rfl) _
    have bSA := ((bS9.set 0 (.int .i64 (R : Int))).set 1 (.int .i64 (R : Int))).set 2 (.slice au (R * R) (R * R))
    have bRA := bR9.keep hK9 (by omega)
    refine hK _ _ ((((hG8.mono fun _ _ _ => trivial).trans (hK8.mono fun q _ hb => hb.1)).trans (hK9.mono fun q _ hb => hb.2))) ?_
    clear hK K
    show wpQuiet _ _ _ _ [_] _
    try (conv => arg 6; simp only [Act.put, List.setIfInBounds_toArray, List.set_cons_succ, List.set_cons_zero])
    repeat (first | go_big_quiet_skip | (go_big_quiet_want; first | (apply quiet_load3 T_mat; rfl; rfl; exact (fun w' hG => bX7.keep hG n5); go_big_quiet_on; simp only [Act.put, List.setIfInBounds_toArray, List.set_cons_succ, List.set_cons_zero]) | (apply quiet_load3 T_mat; rfl; rfl; exact (fun w' hG => bU7.keep hG n6); go_big_quiet_on; simp only [Act.put, List.setIfInBounds_toArray, List.set_cons_succ, List.set_cons_zero]) | (go_big_quiet_op; first | go_big_quiet_on | (refine ⟨_, (fun _ _ => rfl), ?_⟩; go_big_quiet_on))))
    refine wpQuiet_nil ?_
    refine wpSegs_nil ?_
    have hGe := ((hG7.trans hG8).keep hK8 (fun q hq => by omega)).keep hK9 (fun q hq => by omega)
    have hTe := (((hT7.grow hG8).keep hK8 (fun q hq => by have := fA' q hq; omega) (fun q hq => by have := fU' q hq; omega))).keep hK9 (fun q hq => by have := fA' q hq; omega) (fun q hq => by have := fU' q hq; omega)
    go_wp2
    have hHs := herm_rng hl hnum Hy.out
    exact ret_cells_tmp T_mat T_mat rfl rfl rfl rfl bRA bSA ⟨hGe, .inr ⟨s', aa, ca, au, R * R, Hy.out, rfl, hTe.oa.rdI (fun q hq => by have := fA' q hq; omega) (num_rng hHs.na), hTe.ou.rdI (fun q hq => by have := fU' q hq; omega) (num_rng hHs.nu)⟩⟩
end Go.Proofs.Ythlncohllbmapaa
