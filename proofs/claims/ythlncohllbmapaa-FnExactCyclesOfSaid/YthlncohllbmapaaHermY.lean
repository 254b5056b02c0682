/-
  The program's work: a matrix and the operations done to it.
-/
import Derived.Test.YthlncohllbmapaaHermX
namespace Go.Proofs.Ythlncohllbmapaa
open Go.RowKit

theorem addr_add2 (g o j : Nat) : (⟨g, o, none⟩ : Addr).add j = ⟨g, o + j, none⟩ := by unfold Addr.add; split <;> simp_all
theorem StT.loadAt {P : Program} {ty : TypeId} {cs : List Value} (h : StT P ty cs.length) {w : World} {g o : Nat} (hc : ∀ j v, cs[j]? = some v → w.cell? ⟨g, o + j, none⟩ = some v) : (loadVar ty ⟨g, o, none⟩).run P w = .ok (.agg cs.toArray) w := by
  obtain ⟨fs, hu, hi⟩ := h
  have hl : (loadCells ⟨g, o, none⟩ cs.length).run P w = .ok cs.toArray w :=
    run_loadCells_list (P := P) w ⟨g, o, none⟩ cs (fun j v hv => by rw [addr_add2]; exact hc j v hv)
  cases hq : P.info? ty with
  | none => simp [hq] at hi
  | some i =>
    have hs : i.size = cs.length := by simpa [hq] using hi
    have hagg : (isAgg ty).run P w = .ok true w := by
      unfold isAgg
      rw [Sem.run_bind, run_underlying hu w]
      simp
    simp [loadVar, Sem.run_bind, hagg, sizeOf, typeInfo, hq, hs, hl]
section
variable {P : Program} {C : World → Prop} {o : Oper} {a : Act} {K : Act → Prop}
theorem quiet_load3At {ty : TypeId} {x : Operand} {g f : Nat} {u v z : Value} (hty : StT P ty 3) (ho : o.op = .load ty x) (hx : a.eval x = .pointer (some ⟨g, f, none⟩))
    (hv : ∀ w', C w' → w'.cell? ⟨g, f, none⟩ = some u ∧ w'.cell? ⟨g, f + 1, none⟩ = some v ∧ w'.cell? ⟨g, f + 2, none⟩ = some z) (hk : K (a.put o.dst (.agg #[u, v, z]))) : o.quiet P a C K := by
  refine ⟨.agg #[u, v, z], fun w hw => ?_, hk⟩
  obtain ⟨h0, h1, h2⟩ := hv w hw
  have h := StT.loadAt (cs := [u, v, z]) hty (w := w) (g := g) (o := f) (fun j c hj => by
    match j, hj with
    | 0, hj => simp at hj; subst hj; exact h0
    | 1, hj => simp at hj; subst hj; exact h1
    | 2, hj => simp at hj; subst hj; exact h2)
  unfold Oper.quietAt execOp
  simp [ho, hx, Instr.loadAt, Instr.sureAddr, h, Oper.quietUpon]
end
theorem T_rowop : StT Try.prog 94 4 := ⟨_, Try.underlying94, by kernel_rfl⟩
/-- A variable of ten cells: the work. -/
def WkC (R C : Nat) (aa au ar : Option Addr) (ca cu cr : Nat) (bad : Bool) : Array Value := #[.int .i64 R, .int .i64 C, .slice aa (R * C) ca, .int .i64 R, .int .i64 R, .slice au (R * R) cu, .int .i64 C, .int .i64 C, .slice ar (C * C) cr, .bool bad]
def Wk (w : World) (g R C : Nat) (aa au ar : Option Addr) (ca cu cr : Nat) (bad : Bool) : Prop := Blk w g (WkC R C aa au ar ca cu cr bad) 91
structure WkF (w : World) (g R C : Nat) (aa au : Option Addr) (ca cu : Nat) (bad : Bool) : Prop where
  c0 : w.cell? ⟨g, 0, none⟩ = some (.int .i64 R)
  c1 : w.cell? ⟨g, 1, none⟩ = some (.int .i64 C)
  c2 : w.cell? ⟨g, 2, none⟩ = some (.slice aa (R * C) ca)
  c3 : w.cell? ⟨g, 3, none⟩ = some (.int .i64 R)
  c4 : w.cell? ⟨g, 4, none⟩ = some (.int .i64 R)
  c5 : w.cell? ⟨g, 5, none⟩ = some (.slice au (R * R) cu)
  c9 : w.cell? ⟨g, 9, none⟩ = some (.bool bad)
  f9 : w.frozen? ⟨g, 9, none⟩ = false
theorem Wk.f {w : World} {g R C : Nat} {aa au ar : Option Addr} {ca cu cr : Nat} {bad : Bool} (h : Wk w g R C aa au ar ca cu cr bad) : WkF w g R C aa au ca cu bad :=
  ⟨h.cell 0, h.cell 1, h.cell 2, h.cell 3, h.cell 4, h.cell 5, h.cell 9, h.free 9⟩
theorem Wk.keep {w w' : World} {S : Nat → Prop} {g R C : Nat} {aa au ar : Option Addr} {ca cu cr : Nat} {bad : Bool} (h : Wk w g R C aa au ar ca cu cr bad) (hk : Keep S w w') (hS : S g) : Wk w' g R C aa au ar ca cu cr bad := Blk.keep h hk hS
theorem Wk.grow {w w' : World} {g R C : Nat} {aa au ar : Option Addr} {ca cu cr : Nat} {bad : Bool} (h : Wk w g R C aa au ar ca cu cr bad) (hk : Grow w w') : Wk w' g R C aa au ar ca cu cr bad := Blk.grow h hk
theorem Wk.spoil {w : World} {g R C : Nat} {aa au ar : Option Addr} {ca cu cr : Nat} {bad : Bool} (h : Wk w g R C aa au ar ca cu cr bad) : Wk (w.setCell ⟨g, 9, none⟩ (.bool true)) g R C aa au ar ca cu cr true := Blk.set h 9 (.bool true)

set_option maxHeartbeats 1000000 in
set_option maxRecDepth 100000 in
theorem isRowOp_c (kd t : Int) (i p R : Nat) (w : World) (hi : i < R) (hp : p < R) (hR : R ≤ 24) (ht : -400000000 ≤ t ∧ t ≤ 400000000) (hk : (kd = 0 ∧ i ≠ p ∧ t = 0) ∨ (kd = 1 ∧ i = p ∧ t = 0) ∨ (kd = 2 ∧ i ≠ p)) :
    Calls Try.prog 134 #[.agg #[.int .i64 kd, .int .i64 i, .int .i64 p, .int .i64 t], .int .i64 R] w fun e w' => e = .returned (.bool true) ∧ Grow w w' := by
  have Ht := Lib.hid (isNumB_iff.2 ht)
  rcases hk with ⟨rfl, h1, rfl⟩ | ⟨rfl, h1, rfl⟩ | ⟨rfl, h1⟩
  · have q1 : ((i : Int) != (p : Int)) = true := by simp; omega
    go_enter Try.func134, Try.ntmps134
    go_wp2_with fail
    refine (isNumber_c _ _).mono ?_
    rintro e _ ⟨rfl, rfl⟩
    rw [Ht.out]
    go_wp2
    go_ret
    exact ⟨rfl, (Grow.refl w).alloc _ _⟩
  · subst h1
    have q1 : ((i : Int) == (i : Int)) = true := by simp
    go_enter Try.func134, Try.ntmps134
    go_wp2_with fail
    refine (isNumber_c _ _).mono ?_
    rintro e _ ⟨rfl, rfl⟩
    rw [Ht.out]
    go_wp2
    go_ret
    exact ⟨rfl, (Grow.refl w).alloc _ _⟩
  · have q1 : ((i : Int) != (p : Int)) = true := by simp; omega
    go_enter Try.func134, Try.ntmps134
    go_wp2_with fail
    refine (isNumber_c _ _).mono ?_
    rintro e _ ⟨rfl, rfl⟩
    rw [Ht.out]
    go_wp2
    go_ret
    exact ⟨rfl, (Grow.refl w).alloc _ _⟩
set_option maxHeartbeats 4000000 in
set_option maxRecDepth 100000 in
theorem wkRows_g (g R C : Nat) (aa au ar : Option Addr) (ca cu cr : Nat) (kd i p t : Int) (s : HS) (fa fu : List Int) (b1 b2 : Bool) (w : World) (hW : Wk w g R C aa au ar ca cu cr false) (h : Two w aa au (R * C) (R * R) ca cu s) (ngA : blk aa ≠ some g) (ngU : blk au ≠ some g)
    (h0 : ∀ w, Calls Try.prog 134 #[.agg #[.int .i64 kd, .int .i64 i, .int .i64 p, .int .i64 t], .int .i64 R] w fun e w' => e = .returned (.bool true) ∧ Grow w w')
    (h1 : ∀ w, Own w 3 1 aa (R * C) ca (ints s.1) → Calls Try.prog 126 #[.agg #[.int .i64 R, .int .i64 C, .slice aa (R * C) ca], .agg #[.int .i64 kd, .int .i64 i, .int .i64 p, .int .i64 t]] w fun e w' => ∃ m', e = .returned (.bool b1) ∧ Own w' 3 1 aa (R * C) ca (ints m') ∧ Keep (fun q => blk aa ≠ some q) w w' ∧ (b1 = true → m' = fa))
    (h2 : ∀ w, Own w 3 1 au (R * R) cu (ints s.2) → Calls Try.prog 126 #[.agg #[.int .i64 R, .int .i64 R, .slice au (R * R) cu], .agg #[.int .i64 kd, .int .i64 i, .int .i64 p, .int .i64 t]] w fun e w' => ∃ m', e = .returned (.bool b2) ∧ Own w' 3 1 au (R * R) cu (ints m') ∧ Keep (fun q => blk au ≠ some q) w w' ∧ (b2 = true → m' = fu)) :
    Calls Try.prog 115 #[.pointer (some ⟨g, 0, none⟩), .agg #[.int .i64 kd, .int .i64 i, .int .i64 p, .int .i64 t]] w fun e w' => e = .returned (.tuple #[]) ∧ ∃ s', Wk w' g R C aa au ar ca cu cr (!(b1 && b2)) ∧ Two w' aa au (R * C) (R * R) ca cu s' ∧ ((b1 && b2) = true → s' = (fa, fu)) ∧ Keep (fun q => blk aa ≠ some q ∧ blk au ≠ some q ∧ q ≠ g) w w' := by
  have hGz := (Grow.refl w).alloc #[.int .i64 kd, .int .i64 i, .int .i64 p, .int .i64 t] 94
  have bX := Blk.new w #[.int .i64 kd, .int .i64 i, .int .i64 p, .int .i64 t] 94
  have nX : blk aa ≠ some w.heap.size ∧ blk au ≠ some w.heap.size := ⟨fun e => by have := h.oa.lt e; omega, fun e => by have := h.ou.lt e; omega⟩
  have hgX : g < w.heap.size := Blk.lt hW
  have W2 := hW.grow hGz
  have T2 := h.grow hGz
  clear hW h
  generalize hw2 : w.alloc (.cells #[.int .i64 kd, .int .i64 i, .int .i64 p, .int .i64 t] 94) = w2 at *
  have Hw2 := Lib.hid hw2; clear hw2
  have wf := W2.f
  have ng : blk aa ≠ some g ∧ blk au ≠ some g := ⟨ngA, ngU⟩
  go_enter Try.func115, Try.ntmps115
  go_wp2
  rw [Hw2.out]
  refine wp_region_segs (S := (Keep (fun q => blk aa ≠ some q ∧ blk au ≠ some q) w2)) [([0, 1, 2, 3, 4, 5, 6, 7, 8, 9, 10], some 11), ([12, 13, 14, 15, 16, 17, 18, 19], some 20), ([21, 22, 23, 24, 25, 26, 27, 28], some 29), ([30, 31], none)] P_mixed (by kernel_rfl) (fun _ _ _ _ _ h => h) (Keep.refl _ _).drew ?_
  show wpQuiet _ _ _ _ [_, _, _, _, _, _, _, _, _, _, _] _
  repeat (first | go_big_quiet_skip | (go_big_quiet_want; first | (apply quiet_load CT_bool; rfl; rfl; exact (fun w' hG => hG.cell ng wf.c9); go_big_quiet_on; simp only [Act.put, List.setIfInBounds_toArray, List.set_cons_succ, List.set_cons_zero]) | (apply quiet_load CT_int; rfl; rfl; exact (fun w' hG => hG.cell ng wf.c0); go_big_quiet_on; simp only [Act.put, List.setIfInBounds_toArray, List.set_cons_succ, List.set_cons_zero]) | (apply quiet_loadS (cs := #[.int .i64 kd, .int .i64 i, .int .i64 p, .int .i64 t]) T_rowop; rfl; rfl; exact (fun w' hG => bX.keep hG nX); go_big_quiet_on; simp only [Act.put, List.setIfInBounds_toArray, List.set_cons_succ, List.set_cons_zero]) | (apply quiet_load3At T_mat; rfl; rfl; exact (fun w' hG => ⟨hG.cell ng wf.c0, hG.cell ng wf.c1, hG.cell ng wf.c2⟩); go_big_quiet_on; simp only [Act.put, List.setIfInBounds_toArray, List.set_cons_succ, List.set_cons_zero]) | (apply quiet_load3At T_mat; rfl; rfl; exact (fun w' hG => ⟨hG.cell ng wf.c3, hG.cell ng wf.c4, hG.cell ng wf.c5⟩); go_big_quiet_on; simp only [Act.put, List.setIfInBounds_toArray, List.set_cons_succ, List.set_cons_zero]) | (go_big_quiet_op; first | go_big_quiet_on | (refine ⟨_, (fun _ _ => rfl), ?_⟩; go_big_quiet_on))))
  refine wpQuiet_nil ?_
  refine seg_go rfl (fun K hK => ?_)
  go_wp2_with fail
  refine (h0 _).mono ?_
  rintro e w3 ⟨rfl, hG3⟩
  have hG23 := (Grow.refl w2).drew.trans hG3
  go_wp2_with fail
  refine hK _ _ (hG23.any) ?_
  clear hK K
  show wpQuiet _ _ _ _ [_, _, _, _, _, _, _, _] _
  try (conv => arg 6; simp only [Act.put, List.setIfInBounds_toArray, List.set_cons_succ, List.set_cons_zero])
  repeat (first | go_big_quiet_skip | (go_big_quiet_want; first | (apply quiet_load CT_bool; rfl; rfl; exact (fun w' hG => hG.cell ng wf.c9); go_big_quiet_on; simp only [Act.put, List.setIfInBounds_toArray, List.set_cons_succ, List.set_cons_zero]) | (apply quiet_load CT_int; rfl; rfl; exact (fun w' hG => hG.cell ng wf.c0); go_big_quiet_on; simp only [Act.put, List.setIfInBounds_toArray, List.set_cons_succ, List.set_cons_zero]) | (apply quiet_loadS (cs := #[.int .i64 kd, .int .i64 i, .int .i64 p, .int .i64 t]) T_rowop; rfl; rfl; exact (fun w' hG => bX.keep hG nX); go_big_quiet_on; simp only [Act.put, List.setIfInBounds_toArray, List.set_cons_succ, List.set_cons_zero]) | (apply quiet_load3At T_mat; rfl; rfl; exact (fun w' hG => ⟨hG.cell ng wf.c0, hG.cell ng wf.c1, hG.cell ng wf.c2⟩); go_big_quiet_on; simp only [Act.put, List.setIfInBounds_toArray, List.set_cons_succ, List.set_cons_zero]) | (apply quiet_load3At T_mat; rfl; rfl; exact (fun w' hG => ⟨hG.cell ng wf.c3, hG.cell ng wf.c4, hG.cell ng wf.c5⟩); go_big_quiet_on; simp only [Act.put, List.setIfInBounds_toArray, List.set_cons_succ, List.set_cons_zero]) | (go_big_quiet_op; first | go_big_quiet_on | (refine ⟨_, (fun _ _ => rfl), ?_⟩; go_big_quiet_on))))
  refine wpQuiet_nil ?_
  refine seg_go rfl (fun K hK => ?_)
  go_wp2_with fail
  refine (h1 _ (T2.oa.grow hG23)).mono ?_
  rintro e w4 ⟨m1, rfl, hA4, hK4, hb1⟩
  have hK24 : Keep (fun q => blk aa ≠ some q ∧ blk au ≠ some q) w2 w4 := hG23.any.trans (hK4.mono fun q _ hb => hb.1)
  have hU4 := (T2.ou.grow hG23).keep hK4 (fun q hq _ e => T2.ne q e hq)
  cases b1 with
  | false =>
    go_wp2_with fail
    refine hK _ _ (hK24) ?_
    clear hK K
    show wpQuiet _ _ _ _ [_, _, _, _, _, _, _, _] _
    try (conv => arg 6; simp only [Act.put, List.setIfInBounds_toArray, List.set_cons_succ, List.set_cons_zero])
    repeat (first | go_big_quiet_skip | (go_big_quiet_want; first | (apply quiet_load CT_bool; rfl; rfl; exact (fun w' hG => hG.cell ng wf.c9); go_big_quiet_on; simp only [Act.put, List.setIfInBounds_toArray, List.set_cons_succ, List.set_cons_zero]) | (apply quiet_load CT_int; rfl; rfl; exact (fun w' hG => hG.cell ng wf.c0); go_big_quiet_on; simp only [Act.put, List.setIfInBounds_toArray, List.set_cons_succ, List.set_cons_zero]) | (apply quiet_loadS (cs := #[.int .i64 kd, .int .i64 i, .int .i64 p, .int .i64 t]) T_rowop; rfl; rfl; exact (fun w' hG => bX.keep hG nX); go_big_quiet_on; simp only [Act.put, List.setIfInBounds_toArray, List.set_cons_succ, List.set_cons_zero]) | (apply quiet_load3At T_mat; rfl; rfl; exact (fun w' hG => ⟨hG.cell ng wf.c0, hG.cell ng wf.c1, hG.cell ng wf.c2⟩); go_big_quiet_on; simp only [Act.put, List.setIfInBounds_toArray, List.set_cons_succ, List.set_cons_zero]) | (apply quiet_load3At T_mat; rfl; rfl; exact (fun w' hG => ⟨hG.cell ng wf.c3, hG.cell ng wf.c4, hG.cell ng wf.c5⟩); go_big_quiet_on; simp only [Act.put, List.setIfInBounds_toArray, List.set_cons_succ, List.set_cons_zero]) | (go_big_quiet_op; first | go_big_quiet_on | (refine ⟨_, (fun _ _ => rfl), ?_⟩; go_big_quiet_on))))
    refine wpQuiet_nil ?_
    refine seg_skip rfl (hK24) ?_
    show wpQuiet _ _ _ _ [_, _] _
    try (conv => arg 6; simp only [Act.put, List.setIfInBounds_toArray, List.set_cons_succ, List.set_cons_zero])
    repeat (first | go_big_quiet_skip | (go_big_quiet_want; first | (apply quiet_load CT_bool; rfl; rfl; exact (fun w' hG => hG.cell ng wf.c9); go_big_quiet_on; simp only [Act.put, List.setIfInBounds_toArray, List.set_cons_succ, List.set_cons_zero]) | (apply quiet_load CT_int; rfl; rfl; exact (fun w' hG => hG.cell ng wf.c0); go_big_quiet_on; simp only [Act.put, List.setIfInBounds_toArray, List.set_cons_succ, List.set_cons_zero]) | (apply quiet_loadS (cs := #[.int .i64 kd, .int .i64 i, .int .i64 p, .int .i64 t]) T_rowop; rfl; rfl; exact (fun w' hG => bX.keep hG nX); go_big_quiet_on; simp only [Act.put, List.setIfInBounds_toArray, List.set_cons_succ, List.set_cons_zero]) | (apply quiet_load3At T_mat; rfl; rfl; exact (fun w' hG => ⟨hG.cell ng wf.c0, hG.cell ng wf.c1, hG.cell ng wf.c2⟩); go_big_quiet_on; simp only [Act.put, List.setIfInBounds_toArray, List.set_cons_succ, List.set_cons_zero]) | (apply quiet_load3At T_mat; rfl; rfl; exact (fun w' hG => ⟨hG.cell ng wf.c3, hG.cell ng wf.c4, hG.cell ng wf.c5⟩); go_big_quiet_on; simp only [Act.put, List.setIfInBounds_toArray, List.set_cons_succ, List.set_cons_zero]) | (go_big_quiet_op; first | go_big_quiet_on | (refine ⟨_, (fun _ _ => rfl), ?_⟩; go_big_quiet_on))))
    refine wpQuiet_nil ?_
    refine wpSegs_nil ?_
    have W4 := W2.keep hK24 ng
    obtain ⟨_, _, _, _, _, _, c9, f9⟩ := W4.f
    go_wp2
    exact bodyPost_end (results_none rfl _ _ _) rfl ⟨rfl, (m1, s.2), W4.spoil, Two.keep (T := fun q => q ≠ g) ⟨hA4, hU4, T2.ne⟩ ((Keep.refl _ w4).setCell (p := ⟨g, 9, none⟩) (fun _ e => e rfl) _) (fun q hq e => ngA (e ▸ hq)) (fun q hq e => ngU (e ▸ hq)), (fun h => by cases h), (hGz.any.trans (hK24.mono fun q _ hb => ⟨hb.1, hb.2.1⟩)).trans ((Keep.refl _ w4).setCell (p := ⟨g, 9, none⟩) (fun _ e => e.2.2 rfl) _)⟩
  | true =>
    have Hb1 := Lib.hid (hb1 rfl)
    clear hb1
    go_wp2_with fail
    refine hK _ _ (hK24) ?_
    clear hK K
    show wpQuiet _ _ _ _ [_, _, _, _, _, _, _, _] _
    try (conv => arg 6; simp only [Act.put, List.setIfInBounds_toArray, List.set_cons_succ, List.set_cons_zero])
    repeat (first | go_big_quiet_skip | (go_big_quiet_want; first | (apply quiet_load CT_bool; rfl; rfl; exact (fun w' hG => hG.cell ng wf.c9); go_big_quiet_on; simp only [Act.put, List.setIfInBounds_toArray, List.set_cons_succ, List.set_cons_zero]) | (apply quiet_load CT_int; rfl; rfl; exact (fun w' hG => hG.cell ng wf.c0); go_big_quiet_on; simp only [Act.put, List.setIfInBounds_toArray, List.set_cons_succ, List.set_cons_zero]) | (apply quiet_loadS (cs := #[.int .i64 kd, .int .i64 i, .int .i64 p, .int .i64 t]) T_rowop; rfl; rfl; exact (fun w' hG => bX.keep hG nX); go_big_quiet_on; simp only [Act.put, List.setIfInBounds_toArray, List.set_cons_succ, List.set_cons_zero]) | (apply quiet_load3At T_mat; rfl; rfl; exact (fun w' hG => ⟨hG.cell ng wf.c0, hG.cell ng wf.c1, hG.cell ng wf.c2⟩); go_big_quiet_on; simp only [Act.put, List.setIfInBounds_toArray, List.set_cons_succ, List.set_cons_zero]) | (apply quiet_load3At T_mat; rfl; rfl; exact (fun w' hG => ⟨hG.cell ng wf.c3, hG.cell ng wf.c4, hG.cell ng wf.c5⟩); go_big_quiet_on; simp only [Act.put, List.setIfInBounds_toArray, List.set_cons_succ, List.set_cons_zero]) | (go_big_quiet_op; first | go_big_quiet_on | (refine ⟨_, (fun _ _ => rfl), ?_⟩; go_big_quiet_on))))
    refine wpQuiet_nil ?_
    refine seg_go rfl (fun K hK => ?_)
    go_wp2_with fail
    refine (h2 _ hU4).mono ?_
    rintro e w5 ⟨m2, rfl, hU5, hK5, hb2⟩
    have hK25 : Keep (fun q => blk aa ≠ some q ∧ blk au ≠ some q) w2 w5 := hK24.trans (hK5.mono fun q _ hb => hb.2)
    have hA5 := hA4.keep hK5 (fun q hq _ e => T2.ne q hq e)
    have W5 := W2.keep hK25 ng
    obtain ⟨_, _, _, _, _, _, c9, f9⟩ := W5.f
    cases b2 with
    | false =>
      go_wp2_with fail
      refine hK _ _ (hK25) ?_
      clear hK K
      show wpQuiet _ _ _ _ [_, _] _
      try (conv => arg 6; simp only [Act.put, List.setIfInBounds_toArray, List.set_cons_succ, List.set_cons_zero])
      repeat (first | go_big_quiet_skip | (go_big_quiet_want; first | (apply quiet_load CT_bool; rfl; rfl; exact (fun w' hG => hG.cell ng wf.c9); go_big_quiet_on; simp only [Act.put, List.setIfInBounds_toArray, List.set_cons_succ, List.set_cons_zero]) | (apply quiet_load CT_int; rfl; rfl; exact (fun w' hG => hG.cell ng wf.c0); go_big_quiet_on; simp only [Act.put, List.setIfInBounds_toArray, List.set_cons_succ, List.set_cons_zero]) | (apply quiet_loadS (cs := #[.int .i64 kd, .int .i64 i, .int .i64 p, .int .i64 t]) T_rowop; rfl; rfl; exact (fun w' hG => bX.keep hG nX); go_big_quiet_on; simp only [Act.put, List.setIfInBounds_toArray, List.set_cons_succ, List.set_cons_zero]) | (apply quiet_load3At T_mat; rfl; rfl; exact (fun w' hG => ⟨hG.cell ng wf.c0, hG.cell ng wf.c1, hG.cell ng wf.c2⟩); go_big_quiet_on; simp only [Act.put, List.setIfInBounds_toArray, List.set_cons_succ, List.set_cons_zero]) | (apply quiet_load3At T_mat; rfl; rfl; exact (fun w' hG => ⟨hG.cell ng wf.c3, hG.cell ng wf.c4, hG.cell ng wf.c5⟩); go_big_quiet_on; simp only [Act.put, List.setIfInBounds_toArray, List.set_cons_succ, List.set_cons_zero]) | (go_big_quiet_op; first | go_big_quiet_on | (refine ⟨_, (fun _ _ => rfl), ?_⟩; go_big_quiet_on))))
      refine wpQuiet_nil ?_
      refine wpSegs_nil ?_
      go_wp2
      exact bodyPost_end (results_none rfl _ _ _) rfl ⟨rfl, (m1, m2), W5.spoil, Two.keep (T := fun q => q ≠ g) ⟨hA5, hU5, T2.ne⟩ ((Keep.refl _ w5).setCell (p := ⟨g, 9, none⟩) (fun _ e => e rfl) _) (fun q hq e => ngA (e ▸ hq)) (fun q hq e => ngU (e ▸ hq)), (fun h => by cases h), (hGz.any.trans (hK25.mono fun q _ hb => ⟨hb.1, hb.2.1⟩)).trans ((Keep.refl _ w5).setCell (p := ⟨g, 9, none⟩) (fun _ e => e.2.2 rfl) _)⟩
    | true =>
      have Hb2 := Lib.hid (hb2 rfl)
      clear hb2
      go_wp2_with fail
      refine hK _ _ (hK25) ?_
      clear hK K
      show wpQuiet _ _ _ _ [_, _] _
      try (conv => arg 6; simp only [Act.put, List.setIfInBounds_toArray, List.set_cons_succ, List.set_cons_zero])
      repeat (first | go_big_quiet_skip | (go_big_quiet_want; first | (apply quiet_load CT_bool; rfl; rfl; exact (fun w' hG => hG.cell ng wf.c9); go_big_quiet_on; simp only [Act.put, List.setIfInBounds_toArray, List.set_cons_succ, List.set_cons_zero]) | (apply quiet_load CT_int; rfl; rfl; exact (fun w' hG => hG.cell ng wf.c0); go_big_quiet_on; simp only [Act.put, List.setIfInBounds_toArray, List.set_cons_succ, List.set_cons_zero]) | (apply quiet_loadS (cs := #[.int .i64 kd, .int .i64 i, .int .i64 p, .int .i64 t]) T_rowop; rfl; rfl; exact (fun w' hG => bX.keep hG nX); go_big_quiet_on; simp only [Act.put, List.setIfInBounds_toArray, List.set_cons_succ, List.set_cons_zero]) | (apply quiet_load3At T_mat; rfl; rfl; exact (fun w' hG => ⟨hG.cell ng wf.c0, hG.cell ng wf.c1, hG.cell ng wf.c2⟩); go_big_quiet_on; simp only [Act.put, List.setIfInBounds_toArray, List.set_cons_succ, List.set_cons_zero]) | (apply quiet_load3At T_mat; rfl; rfl; exact (fun w' hG => ⟨hG.cell ng wf.c3, hG.cell ng wf.c4, hG.cell ng wf.c5⟩); go_big_quiet_on; simp only [Act.put, List.setIfInBounds_toArray, List.set_cons_succ, List.set_cons_zero]) | (go_big_quiet_op; first | go_big_quiet_on | (refine ⟨_, (fun _ _ => rfl), ?_⟩; go_big_quiet_on))))
      refine wpQuiet_nil ?_
      refine wpSegs_nil ?_
      go_wp2
      exact bodyPost_end (results_none rfl _ _ _) rfl ⟨rfl, (m1, m2), W5, ⟨hA5, hU5, T2.ne⟩, (fun _ => by rw [Hb1.out, Hb2.out]), hGz.any.trans (hK25.mono fun q _ hb => ⟨hb.1, hb.2.1⟩)⟩
end Go.Proofs.Ythlncohllbmapaa
