/-
  Definitions as text: the program's and the reference's FormatDef.
-/
import Derived.Test.YtdnpdfokdibmdaaGreatDoorZFmtJ
import Derived.Test.YtdnpdfokdibmdaaGreatDoorZOpW
import Derived.Test.YtdnpdfokdibmdaaGreatDoorZIsDefS
namespace Go.Proofs.YtdnpdfokdibmdaaGreatDoor
open Go.RowKit

def fmtD (d : Dfn) : List UInt8 := if isDefB d = true then d.name.data.toList ++ (32 :: (if d.op = 0 then fmtM d.value else opw d.op ++ (32 :: (d.a.data.toList ++ (if d.b.toList.isEmpty = true then [] else 32 :: d.b.data.toList))))) else []
theorem fmtD_no {d : Dfn} (h : isDefB d = false) : fmtD d = [] := by unfold fmtD; rw [h]; rfl
theorem bstr_of (s : ByteArray) : bstr s.data.toList = s := by apply ByteArray.ext; show (s.data.toList).toArray = s.data; simp
theorem bstr_snoc (s : ByteArray) (l : List UInt8) : s ++ bstr l = bstr (s.data.toList ++ l) := by rw [← bstr_append, bstr_of]
theorem fmtD_val {d : Dfn} (h : isDefB d = true) (h0 : d.op = 0) : d.name ++ ⟨#[32]⟩ ++ bstr (fmtM d.value) = bstr (fmtD d) := by
  show d.name ++ bstr [32] ++ bstr (fmtM d.value) = _
  rw [bstr_snoc, bstr_append]
  unfold fmtD; rw [if_pos h, if_pos h0]; simp
theorem fmtD_two {d : Dfn} (h : isDefB d = true) (h0 : d.op ≠ 0) (hb : d.b.toList.isEmpty = true) : d.name ++ ⟨#[32]⟩ ++ bstr (opw d.op) ++ ⟨#[32]⟩ ++ d.a = bstr (fmtD d) := by
  show d.name ++ bstr [32] ++ bstr (opw d.op) ++ bstr [32] ++ d.a = _
  rw [← bstr_of d.a, bstr_snoc, bstr_append, bstr_append, bstr_append]
  unfold fmtD; rw [if_pos h, if_neg h0, if_pos hb]; simp
theorem fmtD_three {d : Dfn} (h : isDefB d = true) (h0 : d.op ≠ 0) (hb : d.b.toList.isEmpty = false) : d.name ++ ⟨#[32]⟩ ++ bstr (opw d.op) ++ ⟨#[32]⟩ ++ d.a ++ ⟨#[32]⟩ ++ d.b = bstr (fmtD d) := by
  show d.name ++ bstr [32] ++ bstr (opw d.op) ++ bstr [32] ++ d.a ++ bstr [32] ++ d.b = _
  rw [← bstr_of d.a, ← bstr_of d.b, bstr_snoc, bstr_append, bstr_append, bstr_append, bstr_append, bstr_append]
  unfold fmtD; rw [if_pos h, if_neg h0, if_neg (by rw [hb]; simp)]; simp
theorem isNameB_size {s : ByteArray} (h : isNameB s = true) : s.size ≤ 6 := ((isNameB_iff s).1 h).2.2
theorem empty_size {s : ByteArray} (h : s.toList.isEmpty = true) : s.size = 0 := by rw [strEmpty] at h; simpa using h
theorem isDefB_rng {d : Dfn} (h : isDefB d = true) : d.name.size ≤ 6 ∧ d.a.size ≤ 6 ∧ d.b.size ≤ 6 ∧ 0 ≤ d.op ∧ d.op ≤ 9 := by
  unfold isDefB at h
  simp only [Bool.and_eq_true, decide_eq_true_eq] at h
  obtain ⟨h1, ⟨h2, h3⟩, h4⟩ := h
  refine ⟨isNameB_size h1, ?_, ?_, h2, h3⟩
  · split at h4
    · simp only [Bool.and_eq_true] at h4; have := empty_size h4.1; omega
    · split at h4
      · simp only [Bool.and_eq_true] at h4; exact isNameB_size h4.1
      · simp only [Bool.and_eq_true] at h4; exact isNameB_size h4.1
  · split at h4
    · simp only [Bool.and_eq_true] at h4; have := empty_size h4.2.1; omega
    · split at h4
      · simp only [Bool.and_eq_true] at h4; exact isNameB_size h4.2.1
      · simp only [Bool.and_eq_true] at h4; have := empty_size h4.2.1; omega

theorem StT.loadAtF {P : Program} {ty : TypeId} {cs : List Value} (h : StT P ty cs.length) {w : World} {g o : Nat} (hc : ∀ j v, cs[j]? = some v → w.cell? ⟨g, o + j, none⟩ = some v) : (loadVar ty ⟨g, o, none⟩).run P w = .ok (.agg cs.toArray) w := by
  obtain ⟨fs, hu, hi⟩ := h
  have hl : (loadCells ⟨g, o, none⟩ cs.length).run P w = .ok cs.toArray w :=
    run_loadCells_list (P := P) w ⟨g, o, none⟩ cs (fun j v hv => by rw [show (⟨g, o, none⟩ : Addr).add j = ⟨g, o + j, none⟩ by unfold Addr.add; split <;> simp_all]; exact hc j v hv)
  cases hq : P.info? ty with
  | none => simp [hq] at hi
  | some i =>
    have hs : i.size = cs.length := by simpa [hq] using hi
    have hagg : (isAgg ty).run P w = .ok true w := by
      unfold isAgg
      rw [Sem.run_bind, run_underlying hu w]
      simp
    simp [loadVar, Sem.run_bind, hagg, sizeOf, typeInfo, hq, hs, hl]
theorem quiet_load3F {P : Program} {C : World → Prop} {o : Oper} {a : Act} {K : Act → Prop} {ty : TypeId} {x : Operand} {g f : Nat} {u v z : Value} (hty : StT P ty 3) (ho : o.op = .load ty x) (hx : a.eval x = .pointer (some ⟨g, f, none⟩))
    (hv : ∀ w', C w' → w'.cell? ⟨g, f, none⟩ = some u ∧ w'.cell? ⟨g, f + 1, none⟩ = some v ∧ w'.cell? ⟨g, f + 2, none⟩ = some z) (hk : K (a.put o.dst (.agg #[u, v, z]))) : o.quiet P a C K := by
  refine ⟨.agg #[u, v, z], fun w hw => ?_, hk⟩
  obtain ⟨h0, h1, h2⟩ := hv w hw
  have h := StT.loadAtF (cs := [u, v, z]) hty (w := w) (g := g) (o := f) (fun j c hj => by
    match j, hj with
    | 0, hj => simp at hj; subst hj; exact h0
    | 1, hj => simp at hj; subst hj; exact h1
    | 2, hj => simp at hj; subst hj; exact h2)
  unfold Oper.quietAt execOp
  simp [ho, hx, Instr.loadAt, Instr.sureAddr, h, Oper.quietUpon]
theorem CT_string : CellT Tryz.prog 9 := CellT.string Tryz.underlying9

set_option maxHeartbeats 8000000 in
set_option maxRecDepth 100000 in
theorem iFormatDef_c {S : Nat → Prop} {v : Value} {d : Dfn} {w : World} (h : VD w S v d) (hb : d.value.cells.length ≤ 2097152) (ht : Tab w) :
    Calls Tryz.prog 6 #[v] w fun e w' => e = .returned (.string (bstr (fmtD d))) ∧ Grow w w' := by
  have hVD := h
  obtain ⟨a, n, c, rfl, h, ho⟩ := h
  obtain ⟨o1, o2, o3, o4, o5, o6⟩ := ho
  have hG1 := (Grow.refl w).alloc #[.string d.name, .int .i64 d.op, .string d.a, .string d.b, .int .i64 d.value.rows, .int .i64 d.value.cols, .slice a n c] 28
  have bM := Blk.new w #[.string d.name, .int .i64 d.op, .string d.a, .string d.b, .int .i64 d.value.rows, .int .i64 d.value.cols, .slice a n c] 28
  have Ht := Lib.hid ht; clear ht
  obtain ⟨⟨m0, m1, m2, m3, m4, m5, m6⟩, -⟩ := bM.seven
  unfold I64 at o2
  cases hok : isDefB d with
  | false =>
    have Hz := Lib.hid (fmtD_no hok)
    go_enter Tryz.func6, Tryz.ntmps6
    go_wp2_with fail
    refine (implIsDef_c (hVD.grow hG1) hb).mono ?_
    rw [hok]
    rintro e w2 ⟨rfl, hG2⟩
    clear hok
    go_wp2
    go_ret
    exact ⟨by rw [Hz.out]; rfl, hG1.trans hG2⟩
  | true =>
    obtain ⟨r1, r2, r3, r4, r5⟩ := isDefB_rng hok
    have Hok := Lib.hid hok
    go_enter Tryz.func6, Tryz.ntmps6
    go_wp2_with fail
    refine (implIsDef_c (hVD.grow hG1) hb).mono ?_
    rw [hok]
    rintro e w2 ⟨rfl, hG2⟩
    have bM2 := bM.grow hG2
    have hG12 := hG1.trans hG2
    clear hok m0 m1 m2 m3 m4 m5 m6
    obtain ⟨⟨m0, m1, m2, m3, m4, m5, m6⟩, -⟩ := bM2.seven
    by_cases h0 : d.op = 0
    · have q0 : (d.op == 0) = true := by simp [h0]
      have Hf := Lib.hid (fmtD_val Hok.out h0)
      have hfl := fmtM_len d.value
      clear h0
      go_wp2
      refine wp_region_segs (S := Grow w2) [([0, 1, 2, 3, 4], some 5), ([6, 7], none)] P_mixed (by kernel_rfl) (fun _ _ _ _ _ h => h) (Grow.refl _).drew ?_
      show wpQuiet _ _ _ _ [_, _, _, _, _] _
      repeat (first | go_big_quiet_skip | (go_big_quiet_want; first | (apply quiet_load CT_string; rfl; rfl; exact (fun w' hG => hG.cell m0); go_big_quiet_on; simp only [Act.put, List.setIfInBounds_toArray, List.set_cons_succ, List.set_cons_zero]) | (apply quiet_load3F T_mat; rfl; rfl; exact (fun w' hG => ⟨hG.cell m4, hG.cell m5, hG.cell m6⟩); go_big_quiet_on; simp only [Act.put, List.setIfInBounds_toArray, List.set_cons_succ, List.set_cons_zero]) | (go_big_quiet_op; first | go_big_quiet_on | (refine ⟨_, (fun _ _ => rfl), ?_⟩; go_big_quiet_on))))
      refine wpQuiet_nil ?_
      refine seg_go rfl (fun K hK => ?_)
      go_wp2_with fail
      refine (iFormatMatrix_c (m := d.value) (S := S) ⟨a, n, c, rfl, (h.grow hG12).grow (Grow.refl w2).drew, o5, o6⟩ hb (Ht.out.grow hG12.drew)).mono ?_
      rintro e w3 ⟨rfl, hG3⟩
      have hGa := (Grow.refl w2).drew.trans hG3
      go_wp2_with fail
      refine hK _ _ (hGa) ?_
      clear hK K
      show wpQuiet _ _ _ _ [_, _] _
      try (conv => arg 6; simp only [Act.put, List.setIfInBounds_toArray, List.set_cons_succ, List.set_cons_zero])
      repeat (first | go_big_quiet_skip | (go_big_quiet_want; first | (apply quiet_load CT_string; rfl; rfl; exact (fun w' hG => hG.cell m0); go_big_quiet_on; simp only [Act.put, List.setIfInBounds_toArray, List.set_cons_succ, List.set_cons_zero]) | (apply quiet_load3F T_mat; rfl; rfl; exact (fun w' hG => ⟨hG.cell m4, hG.cell m5, hG.cell m6⟩); go_big_quiet_on; simp only [Act.put, List.setIfInBounds_toArray, List.set_cons_succ, List.set_cons_zero]) | (go_big_quiet_op; first | go_big_quiet_on | (refine ⟨_, (fun _ _ => rfl), ?_⟩; go_big_quiet_on))))
      refine wpQuiet_nil ?_
      refine wpSegs_nil ?_
      go_wp2
      go_ret
      exact ⟨by rw [← Hf.out]; rfl, hG12.trans hGa⟩
    · have q0 : (d.op == 0) = false := by simp [h0]
      have hol := opw_len d.op
      cases hbe : d.b.toList.isEmpty with
      | true =>
        have Hf := Lib.hid (fmtD_two Hok.out h0 hbe)
        clear h0
        go_wp2
        refine wp_region_segs (S := Grow w2) [([0, 1, 2, 3, 4, 8, 9], some 5), ([6, 7, 10, 11], none)] P_mixed (by kernel_rfl) (fun _ _ _ _ _ h => h) (Grow.refl _).drew ?_
        show wpQuiet _ _ _ _ [_, _, _, _, _, _, _] _
        repeat (first | go_big_quiet_skip | (go_big_quiet_want; first | (apply quiet_load CT_string; rfl; rfl; exact (fun w' hG => hG.cell m0); go_big_quiet_on; simp only [Act.put, List.setIfInBounds_toArray, List.set_cons_succ, List.set_cons_zero]) | (apply quiet_load CT_int; rfl; rfl; exact (fun w' hG => hG.cell m1); go_big_quiet_on; simp only [Act.put, List.setIfInBounds_toArray, List.set_cons_succ, List.set_cons_zero]) | (apply quiet_load CT_string; rfl; rfl; exact (fun w' hG => hG.cell m2); go_big_quiet_on; simp only [Act.put, List.setIfInBounds_toArray, List.set_cons_succ, List.set_cons_zero]) | (go_big_quiet_op; first | go_big_quiet_on | (refine ⟨_, (fun _ _ => rfl), ?_⟩; go_big_quiet_on))))
        refine wpQuiet_nil ?_
        refine seg_go rfl (fun K hK => ?_)
        go_wp2_with fail
        refine (opWord_c d.op _ ⟨r4, r5⟩).mono ?_
        rintro e w3 ⟨rfl, hG3⟩
        have hGa := (Grow.refl w2).drew.trans hG3
        go_wp2_with fail
        refine hK _ _ (hGa) ?_
        clear hK K
        show wpQuiet _ _ _ _ [_, _, _, _] _
        try (conv => arg 6; simp only [Act.put, List.setIfInBounds_toArray, List.set_cons_succ, List.set_cons_zero])
        repeat (first | go_big_quiet_skip | (go_big_quiet_want; first | (apply quiet_load CT_string; rfl; rfl; exact (fun w' hG => hG.cell m0); go_big_quiet_on; simp only [Act.put, List.setIfInBounds_toArray, List.set_cons_succ, List.set_cons_zero]) | (apply quiet_load CT_int; rfl; rfl; exact (fun w' hG => hG.cell m1); go_big_quiet_on; simp only [Act.put, List.setIfInBounds_toArray, List.set_cons_succ, List.set_cons_zero]) | (apply quiet_load CT_string; rfl; rfl; exact (fun w' hG => hG.cell m2); go_big_quiet_on; simp only [Act.put, List.setIfInBounds_toArray, List.set_cons_succ, List.set_cons_zero]) | (go_big_quiet_op; first | go_big_quiet_on | (refine ⟨_, (fun _ _ => rfl), ?_⟩; go_big_quiet_on))))
        refine wpQuiet_nil ?_
        refine wpSegs_nil ?_
        go_wp2
        go_ret
        exact ⟨by rw [← Hf.out]; rfl, hG12.trans hGa⟩
      | false =>
        have Hf := Lib.hid (fmtD_three Hok.out h0 hbe)
        clear h0
        go_wp2
        refine wp_region_segs (S := Grow w2) [([0, 1, 2, 3, 4, 8, 9, 12, 13], some 5), ([6, 7, 10, 11, 14, 15], none)] P_mixed (by kernel_rfl) (fun _ _ _ _ _ h => h) (Grow.refl _).drew ?_
        show wpQuiet _ _ _ _ [_, _, _, _, _, _, _, _, _] _
        repeat (first | go_big_quiet_skip | (go_big_quiet_want; first | (apply quiet_load CT_string; rfl; rfl; exact (fun w' hG => hG.cell m0); go_big_quiet_on; simp only [Act.put, List.setIfInBounds_toArray, List.set_cons_succ, List.set_cons_zero]) | (apply quiet_load CT_int; rfl; rfl; exact (fun w' hG => hG.cell m1); go_big_quiet_on; simp only [Act.put, List.setIfInBounds_toArray, List.set_cons_succ, List.set_cons_zero]) | (apply quiet_load CT_string; rfl; rfl; exact (fun w' hG => hG.cell m2); go_big_quiet_on; simp only [Act.put, List.setIfInBounds_toArray, List.set_cons_succ, List.set_cons_zero]) | (apply quiet_load CT_string; rfl; rfl; exact (fun w' hG => hG.cell m3); go_big_quiet_on; simp only [Act.put, List.setIfInBounds_toArray, List.set_cons_succ, List.set_cons_zero]) | (go_big_quiet_op; first | go_big_quiet_on | (refine ⟨_, (fun _ _ => rfl), ?_⟩; go_big_quiet_on))))
        refine wpQuiet_nil ?_
        refine seg_go rfl (fun K hK => ?_)
        go_wp2_with fail
        refine (opWord_c d.op _ ⟨r4, r5⟩).mono ?_
        rintro e w3 ⟨rfl, hG3⟩
        have hGa := (Grow.refl w2).drew.trans hG3
        go_wp2_with fail
        refine hK _ _ (hGa) ?_
        clear hK K
        show wpQuiet _ _ _ _ [_, _, _, _, _, _] _
        try (conv => arg 6; simp only [Act.put, List.setIfInBounds_toArray, List.set_cons_succ, List.set_cons_zero])
        repeat (first | go_big_quiet_skip | (go_big_quiet_want; first | (apply quiet_load CT_string; rfl; rfl; exact (fun w' hG => hG.cell m0); go_big_quiet_on; simp only [Act.put, List.setIfInBounds_toArray, List.set_cons_succ, List.set_cons_zero]) | (apply quiet_load CT_int; rfl; rfl; exact (fun w' hG => hG.cell m1); go_big_quiet_on; simp only [Act.put, List.setIfInBounds_toArray, List.set_cons_succ, List.set_cons_zero]) | (apply quiet_load CT_string; rfl; rfl; exact (fun w' hG => hG.cell m2); go_big_quiet_on; simp only [Act.put, List.setIfInBounds_toArray, List.set_cons_succ, List.set_cons_zero]) | (apply quiet_load CT_string; rfl; rfl; exact (fun w' hG => hG.cell m3); go_big_quiet_on; simp only [Act.put, List.setIfInBounds_toArray, List.set_cons_succ, List.set_cons_zero]) | (go_big_quiet_op; first | go_big_quiet_on | (refine ⟨_, (fun _ _ => rfl), ?_⟩; go_big_quiet_on))))
        refine wpQuiet_nil ?_
        refine wpSegs_nil ?_
        go_wp2
        go_ret
        exact ⟨by rw [← Hf.out]; rfl, hG12.trans hGa⟩
end Go.Proofs.YtdnpdfokdibmdaaGreatDoor
