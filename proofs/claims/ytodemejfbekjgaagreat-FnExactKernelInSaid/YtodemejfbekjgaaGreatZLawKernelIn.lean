/-
  The law FnExactKernelIn returns true for all arguments: the program's KernelIn and the reference's return the same; arguments stay; results share no memory. No condition.
-/
import Derived.Test.YtodemejfbekjgaaGreatZMods
import Derived.Test.YtodemejfbekjgaaGreatZBase
import Derived.Test.YtodemejfbekjgaaGreatZInts
namespace Go.Proofs.YtodemejfbekjgaaGreat.lawKernelIn
open Go.ChangeShapes Go.WideShapes Go.ChangeAt Go.RowKit

noncomputable def rB (mr ms mf : Mat) : List Int := mqB (kerIs mr ms mf) (tzB ms mf) (basB mr)
noncomputable def rN (mr ms mf : Mat) : Int := mqN (kerIs mr ms mf) (tzB ms mf) (basB mr)
noncomputable def rOk (mr ms mf : Mat) : Bool := mqOk (kerIs mr ms mf) (tzB ms mf) (basB mr)
theorem rB_bd (mr ms mf : Mat) : bdI (rB mr ms mf) ≤ 1024 := mqB_bd _ _ _
theorem spec_V {S1 S2 S3 : Nat → Prop} {rv sv fv : Value} {r s f : Mat} {w : World} (hr : VM w S1 rv r) (hbr : bdM r ≤ 1048576) (hs : VM w S2 sv s) (hbs : bdM s ≤ 1048576) (hf : VM w S3 fv f) (hbf : bdM f ≤ 1048576) :
    Calls Tryz.prog 16 #[rv, sv, fv] w fun e w' => ∃ x, e = .returned (.tuple #[x, .int .i64 (rN r s f), .bool (rOk r s f)]) ∧ VI w' (New w w') x (rB r s f) ∧ Grow w w' :=
  (specKernelIn_v hr hbr hs hbs hf hbf).mono fun _ _ ⟨r, h1, h2, h3⟩ => ⟨r, h1, h2.rd fun _ h => h, h3⟩
theorem impl_V {S1 S2 S3 : Nat → Prop} {rv sv fv : Value} {r s f : Mat} {w : World} (hr : VM w S1 rv r) (hbr : bdM r ≤ 1048576) (hs : VM w S2 sv s) (hbs : bdM s ≤ 1048576) (hf : VM w S3 fv f) (hbf : bdM f ≤ 1048576) :
    Calls Tryz.prog 17 #[rv, sv, fv] w fun e w' => ∃ x, e = .returned (.tuple #[x, .int .i64 (rN r s f), .bool (rOk r s f)]) ∧ OI w' (New w w') x (rB r s f) ∧ Grow w w' := implKernelIn_v hr hbr hs hbs hf hbf
set_option maxHeartbeats 16000000 in
set_option maxRecDepth 100000 in
theorem walk (mrv : Value) (mr : Mat) (msv : Value) (ms : Mat) (mfv : Value) (mf : Mat) (w : World) (hmr0 : VM w (fun _ => True) mrv mr) (hms0 : VM w (fun _ => True) msv ms) (hmf0 : VM w (fun _ => True) mfv mf) :
    Calls Tryz.prog 4 #[mrv, msv, mfv] w fun e w' => e = .returned (.bool true) ∧ Grow w w' := by
  have hs0 : w.heap.size ≤ w.heap.size := Nat.le_refl _
  have hAmr : VM w (fun b => b < w.heap.size) mrv mr := hmr0.weak fun _ hb _ => hb
  have hAms : VM w (fun b => b < w.heap.size) msv ms := hms0.weak fun _ hb _ => hb
  have hAmf : VM w (fun b => b < w.heap.size) mfv mf := hmf0.weak fun _ hb _ => hb
  clear hmr0
  clear hms0
  clear hmf0
  have hq0mr := hAmr; obtain ⟨mra, mrn, mrc, rfl, -⟩ := hq0mr
  have hq0ms := hAms; obtain ⟨msa, msn, msc, rfl, -⟩ := hq0ms
  have hq0mf := hAmf; obtain ⟨mfa, mfn, mfc, rfl, -⟩ := hq0mf
  obtain ⟨wB, hwB⟩ : ∃ wB, wB = (((w.alloc (.cells #[.int .i64 mr.rows, .int .i64 mr.cols, .slice mra mrn mrc] 24)).alloc (.cells #[.int .i64 ms.rows, .int .i64 ms.cols, .slice msa msn msc] 24)).alloc (.cells #[.int .i64 mf.rows, .int .i64 mf.cols, .slice mfa mfn mfc] 24)) := ⟨_, rfl⟩
  have hT : Grow w wB := by rw [hwB]; exact ((((Grow.refl w).alloc _ _).alloc _ _).alloc _ _)
  have hBpmr := (((Blk.newAt w #[.int .i64 mr.rows, .int .i64 mr.cols, .slice mra mrn mrc] 24 (g := w.heap.size) (by simp)).alloc (.cells #[.int .i64 ms.rows, .int .i64 ms.cols, .slice msa msn msc] 24)).alloc (.cells #[.int .i64 mf.rows, .int .i64 mf.cols, .slice mfa mfn mfc] 24))
  have hBpms := ((Blk.newAt (w.alloc (.cells #[.int .i64 mr.rows, .int .i64 mr.cols, .slice mra mrn mrc] 24)) #[.int .i64 ms.rows, .int .i64 ms.cols, .slice msa msn msc] 24 (g := w.heap.size + 1) (by simp)).alloc (.cells #[.int .i64 mf.rows, .int .i64 mf.cols, .slice mfa mfn mfc] 24))
  have hBpmf := Blk.newAt ((w.alloc (.cells #[.int .i64 mr.rows, .int .i64 mr.cols, .slice mra mrn mrc] 24)).alloc (.cells #[.int .i64 ms.rows, .int .i64 ms.cols, .slice msa msn msc] 24)) #[.int .i64 mf.rows, .int .i64 mf.cols, .slice mfa mfn mfc] 24 (g := w.heap.size + 1 + 1) (by simp)
  rw [← hwB] at hBpmr
  rw [← hwB] at hBpms
  rw [← hwB] at hBpmf
  have HwB := Lib.hid hwB; clear hwB
  have hsB := hT.size
  have hlthBpmr := hBpmr.lt
  have hlthBpms := hBpms.lt
  have hlthBpmf := hBpmf.lt
  replace hAmr := hAmr.grow hT
  replace hAms := hAms.grow hT
  replace hAmf := hAmf.grow hT
  by_cases hbmr : szM 1048576 mr < 0
  · skip
    go_enter Tryz.func4, Tryz.ntmps4
    go_wp2_with fail
    rw [← HwB.out]
    refine (sz_M hAmr (by omega) (by omega)).mono ?_; rintro e wz0 ⟨rfl, hGz0⟩; have hsz0 := hGz0.size; replace hT := hT.trans hGz0; replace hAmr := hAmr.grow hGz0; replace hAms := hAms.grow hGz0; replace hAmf := hAmf.grow hGz0; replace hBpmr := hBpmr.grow hGz0; replace hBpms := hBpms.grow hGz0; replace hBpmf := hBpmf.grow hGz0; clear hGz0
    obtain ⟨⟨pchBpmr0_1, pchBpmr1_1, pchBpmr2_1⟩, -⟩ := hBpmr.three
    obtain ⟨⟨pchBpms0_2, pchBpms1_2, pchBpms2_2⟩, -⟩ := hBpms.three
    obtain ⟨⟨pchBpmf0_3, pchBpmf1_3, pchBpmf2_3⟩, -⟩ := hBpmf.three
    go_wp2_with fail
    clear pchBpmr0_1 pchBpmr1_1 pchBpmr2_1
    clear pchBpms0_2 pchBpms1_2 pchBpms2_2
    clear pchBpmf0_3 pchBpmf1_3 pchBpmf2_3
    all_goals (go_ret; exact ⟨rfl, hT⟩)
  have hzmr := sz_M_ok (l := mr) (left := 1048576) (by omega)
  have hBmr : bdM mr ≤ 1048576 := by omega
  by_cases hbms : szM (1048576 - (bdM mr : Int)) ms < 0
  · skip
    go_enter Tryz.func4, Tryz.ntmps4
    go_wp2_with fail
    rw [← HwB.out]
    refine (sz_M hAmr (by omega) (by omega)).mono ?_; rintro e wz0 ⟨rfl, hGz0⟩; have hsz0 := hGz0.size; replace hT := hT.trans hGz0; replace hAmr := hAmr.grow hGz0; replace hAms := hAms.grow hGz0; replace hAmf := hAmf.grow hGz0; replace hBpmr := hBpmr.grow hGz0; replace hBpms := hBpms.grow hGz0; replace hBpmf := hBpmf.grow hGz0; clear hGz0
    obtain ⟨⟨pchBpmr0_4, pchBpmr1_4, pchBpmr2_4⟩, -⟩ := hBpmr.three
    obtain ⟨⟨pchBpms0_5, pchBpms1_5, pchBpms2_5⟩, -⟩ := hBpms.three
    obtain ⟨⟨pchBpmf0_6, pchBpmf1_6, pchBpmf2_6⟩, -⟩ := hBpmf.three
    go_wp2_with fail
    clear pchBpmr0_4 pchBpmr1_4 pchBpmr2_4
    clear pchBpms0_5 pchBpms1_5 pchBpms2_5
    clear pchBpmf0_6 pchBpmf1_6 pchBpmf2_6
    refine (sz_M hAms (by omega) (by omega)).mono ?_; rintro e wz1 ⟨rfl, hGz1⟩; have hsz1 := hGz1.size; replace hT := hT.trans hGz1; replace hAmr := hAmr.grow hGz1; replace hAms := hAms.grow hGz1; replace hAmf := hAmf.grow hGz1; replace hBpmr := hBpmr.grow hGz1; replace hBpms := hBpms.grow hGz1; replace hBpmf := hBpmf.grow hGz1; clear hGz1
    obtain ⟨⟨pchBpmr0_7, pchBpmr1_7, pchBpmr2_7⟩, -⟩ := hBpmr.three
    obtain ⟨⟨pchBpms0_8, pchBpms1_8, pchBpms2_8⟩, -⟩ := hBpms.three
    obtain ⟨⟨pchBpmf0_9, pchBpmf1_9, pchBpmf2_9⟩, -⟩ := hBpmf.three
    go_wp2_with fail
    clear pchBpmr0_7 pchBpmr1_7 pchBpmr2_7
    clear pchBpms0_8 pchBpms1_8 pchBpms2_8
    clear pchBpmf0_9 pchBpmf1_9 pchBpmf2_9
    all_goals (go_ret; exact ⟨rfl, hT⟩)
  have hzms := sz_M_ok (l := ms) (left := (1048576 - (bdM mr : Int))) (by omega)
  have hBms : bdM ms ≤ 1048576 := by omega
  by_cases hbmf : szM ((1048576 - (bdM mr : Int)) - (bdM ms : Int)) mf < 0
  · skip
    go_enter Tryz.func4, Tryz.ntmps4
    go_wp2_with fail
    rw [← HwB.out]
    refine (sz_M hAmr (by omega) (by omega)).mono ?_; rintro e wz0 ⟨rfl, hGz0⟩; have hsz0 := hGz0.size; replace hT := hT.trans hGz0; replace hAmr := hAmr.grow hGz0; replace hAms := hAms.grow hGz0; replace hAmf := hAmf.grow hGz0; replace hBpmr := hBpmr.grow hGz0; replace hBpms := hBpms.grow hGz0; replace hBpmf := hBpmf.grow hGz0; clear hGz0
    obtain ⟨⟨pchBpmr0_10, pchBpmr1_10, pchBpmr2_10⟩, -⟩ := hBpmr.three
    obtain ⟨⟨pchBpms0_11, pchBpms1_11, pchBpms2_11⟩, -⟩ := hBpms.three
    obtain ⟨⟨pchBpmf0_12, pchBpmf1_12, pchBpmf2_12⟩, -⟩ := hBpmf.three
    go_wp2_with fail
    clear pchBpmr0_10 pchBpmr1_10 pchBpmr2_10
    clear pchBpms0_11 pchBpms1_11 pchBpms2_11
    clear pchBpmf0_12 pchBpmf1_12 pchBpmf2_12
    refine (sz_M hAms (by omega) (by omega)).mono ?_; rintro e wz1 ⟨rfl, hGz1⟩; have hsz1 := hGz1.size; replace hT := hT.trans hGz1; replace hAmr := hAmr.grow hGz1; replace hAms := hAms.grow hGz1; replace hAmf := hAmf.grow hGz1; replace hBpmr := hBpmr.grow hGz1; replace hBpms := hBpms.grow hGz1; replace hBpmf := hBpmf.grow hGz1; clear hGz1
    obtain ⟨⟨pchBpmr0_13, pchBpmr1_13, pchBpmr2_13⟩, -⟩ := hBpmr.three
    obtain ⟨⟨pchBpms0_14, pchBpms1_14, pchBpms2_14⟩, -⟩ := hBpms.three
    obtain ⟨⟨pchBpmf0_15, pchBpmf1_15, pchBpmf2_15⟩, -⟩ := hBpmf.three
    go_wp2_with fail
    clear pchBpmr0_13 pchBpmr1_13 pchBpmr2_13
    clear pchBpms0_14 pchBpms1_14 pchBpms2_14
    clear pchBpmf0_15 pchBpmf1_15 pchBpmf2_15
    refine (sz_M hAmf (by omega) (by omega)).mono ?_; rintro e wz2 ⟨rfl, hGz2⟩; have hsz2 := hGz2.size; replace hT := hT.trans hGz2; replace hAmr := hAmr.grow hGz2; replace hAms := hAms.grow hGz2; replace hAmf := hAmf.grow hGz2; replace hBpmr := hBpmr.grow hGz2; replace hBpms := hBpms.grow hGz2; replace hBpmf := hBpmf.grow hGz2; clear hGz2
    obtain ⟨⟨pchBpmr0_16, pchBpmr1_16, pchBpmr2_16⟩, -⟩ := hBpmr.three
    obtain ⟨⟨pchBpms0_17, pchBpms1_17, pchBpms2_17⟩, -⟩ := hBpms.three
    obtain ⟨⟨pchBpmf0_18, pchBpmf1_18, pchBpmf2_18⟩, -⟩ := hBpmf.three
    go_wp2_with fail
    clear pchBpmr0_16 pchBpmr1_16 pchBpmr2_16
    clear pchBpms0_17 pchBpms1_17 pchBpms2_17
    clear pchBpmf0_18 pchBpmf1_18 pchBpmf2_18
    all_goals (go_ret; exact ⟨rfl, hT⟩)
  have hzmf := sz_M_ok (l := mf) (left := ((1048576 - (bdM mr : Int)) - (bdM ms : Int))) (by omega)
  have hBmf : bdM mf ≤ 1048576 := by omega
  have hB_0 : bdI (rB mr ms mf) ≤ 2097152 := by have := rB_bd mr ms mf; omega
  have hB_1 : bdI (rB mr ms mf) ≤ 1024 := rB_bd mr ms mf
  go_enter Tryz.func4, Tryz.ntmps4
  go_wp2_with fail
  rw [← HwB.out]
  refine (sz_M hAmr (by omega) (by omega)).mono ?_; rintro e wz0 ⟨rfl, hGz0⟩; have hsz0 := hGz0.size; replace hT := hT.trans hGz0; replace hAmr := hAmr.grow hGz0; replace hAms := hAms.grow hGz0; replace hAmf := hAmf.grow hGz0; replace hBpmr := hBpmr.grow hGz0; replace hBpms := hBpms.grow hGz0; replace hBpmf := hBpmf.grow hGz0; clear hGz0
  obtain ⟨⟨pchBpmr0_19, pchBpmr1_19, pchBpmr2_19⟩, -⟩ := hBpmr.three
  obtain ⟨⟨pchBpms0_20, pchBpms1_20, pchBpms2_20⟩, -⟩ := hBpms.three
  obtain ⟨⟨pchBpmf0_21, pchBpmf1_21, pchBpmf2_21⟩, -⟩ := hBpmf.three
  go_wp2_with fail
  clear pchBpmr0_19 pchBpmr1_19 pchBpmr2_19
  clear pchBpms0_20 pchBpms1_20 pchBpms2_20
  clear pchBpmf0_21 pchBpmf1_21 pchBpmf2_21
  refine (sz_M hAms (by omega) (by omega)).mono ?_; rintro e wz1 ⟨rfl, hGz1⟩; have hsz1 := hGz1.size; replace hT := hT.trans hGz1; replace hAmr := hAmr.grow hGz1; replace hAms := hAms.grow hGz1; replace hAmf := hAmf.grow hGz1; replace hBpmr := hBpmr.grow hGz1; replace hBpms := hBpms.grow hGz1; replace hBpmf := hBpmf.grow hGz1; clear hGz1
  obtain ⟨⟨pchBpmr0_22, pchBpmr1_22, pchBpmr2_22⟩, -⟩ := hBpmr.three
  obtain ⟨⟨pchBpms0_23, pchBpms1_23, pchBpms2_23⟩, -⟩ := hBpms.three
  obtain ⟨⟨pchBpmf0_24, pchBpmf1_24, pchBpmf2_24⟩, -⟩ := hBpmf.three
  go_wp2_with fail
  clear pchBpmr0_22 pchBpmr1_22 pchBpmr2_22
  clear pchBpms0_23 pchBpms1_23 pchBpms2_23
  clear pchBpmf0_24 pchBpmf1_24 pchBpmf2_24
  refine (sz_M hAmf (by omega) (by omega)).mono ?_; rintro e wz2 ⟨rfl, hGz2⟩; have hsz2 := hGz2.size; replace hT := hT.trans hGz2; replace hAmr := hAmr.grow hGz2; replace hAms := hAms.grow hGz2; replace hAmf := hAmf.grow hGz2; replace hBpmr := hBpmr.grow hGz2; replace hBpms := hBpms.grow hGz2; replace hBpmf := hBpmf.grow hGz2; clear hGz2
  obtain ⟨⟨pchBpmr0_25, pchBpmr1_25, pchBpmr2_25⟩, -⟩ := hBpmr.three
  obtain ⟨⟨pchBpms0_26, pchBpms1_26, pchBpms2_26⟩, -⟩ := hBpms.three
  obtain ⟨⟨pchBpmf0_27, pchBpmf1_27, pchBpmf2_27⟩, -⟩ := hBpmf.three
  go_wp2_with fail
  clear pchBpmr0_25 pchBpmr1_25 pchBpmr2_25
  clear pchBpms0_26 pchBpms1_26 pchBpms2_26
  clear pchBpmf0_27 pchBpmf1_27 pchBpmf2_27
  refine wp_region_segs (S := Grow wz2) [([0, 2, 4], some 1), ([], some 3), ([], some 5), ([], some 6), ([7, 8, 9, 10, 11, 12, 13], none)] P_mixed (by kernel_rfl) (fun _ _ _ _ _ h => h) (Grow.refl _).drew ?_
  show wpQuiet _ _ _ _ [_, _, _] _
  repeat (first | go_big_quiet_skip | (go_big_quiet_want; first | (apply quiet_load3 T_lmat; rfl; rfl; exact (fun w' hG => hBpmr.grow hG); go_big_quiet_on; simp only [Act.put, List.setIfInBounds_toArray, List.set_cons_succ, List.set_cons_zero]) | (apply quiet_load3 T_lmat; rfl; rfl; exact (fun w' hG => hBpms.grow hG); go_big_quiet_on; simp only [Act.put, List.setIfInBounds_toArray, List.set_cons_succ, List.set_cons_zero]) | (apply quiet_load3 T_lmat; rfl; rfl; exact (fun w' hG => hBpmf.grow hG); go_big_quiet_on; simp only [Act.put, List.setIfInBounds_toArray, List.set_cons_succ, List.set_cons_zero]) | (go_big_quiet_op; first | go_big_quiet_on | (refine ⟨_, (fun _ _ => rfl), ?_⟩; go_big_quiet_on))))
  refine wpQuiet_nil ?_
  generalize hwd : wz2.drew = w1
  have hQ : Grow wz2 w1 := by rw [← hwd]; exact (Grow.refl _).drew
  clear hwd
  have hs1 := hQ.size
  replace hAmr := hAmr.grow hQ
  replace hAms := hAms.grow hQ
  replace hAmf := hAmf.grow hQ
  replace hBpmr := hBpmr.grow hQ
  replace hBpms := hBpms.grow hQ
  replace hBpmf := hBpmf.grow hQ
  replace hT := hT.trans hQ
  refine seg_go rfl (fun K hK => ?_)
  go_wp2_with fail
  refine (to_M hAmr hBmr).mono ?_
  rintro e w2 ⟨tmr, rfl, hCmr, hG2⟩
  have hs2 := hG2.size
  replace hAmr := hAmr.grow hG2
  replace hAms := hAms.grow hG2
  replace hAmf := hAmf.grow hG2
  replace hBpmr := hBpmr.grow hG2
  replace hBpms := hBpms.grow hG2
  replace hBpmf := hBpmf.grow hG2
  replace hT := hT.trans hG2
  replace hQ := hQ.trans hG2
  clear hG2
  obtain ⟨tmra, tmrn, tmrc, rfl, hCmrx⟩ := hCmr
  replace hCmr : OM w2 (New w1 w2) (.agg #[.int .i64 (mr).rows, .int .i64 (mr).cols, .slice tmra tmrn tmrc]) mr := ⟨_, _, _, rfl, hCmrx⟩
  clear hCmrx
  go_wp2_with fail
  refine hK _ _ (hQ) ?_
  clear hK K
  show wpQuiet _ _ _ _ [] _
  try (conv => arg 6; simp only [Act.put, List.setIfInBounds_toArray, List.set_cons_succ, List.set_cons_zero])
  refine wpQuiet_nil ?_
  refine seg_go rfl (fun K hK => ?_)
  go_wp2_with fail
  refine (to_M hAms hBms).mono ?_
  rintro e w3 ⟨tms, rfl, hCms, hG3⟩
  have hs3 := hG3.size
  replace hAmr := hAmr.grow hG3
  replace hAms := hAms.grow hG3
  replace hAmf := hAmf.grow hG3
  replace hCmr := hCmr.grow hG3
  replace hBpmr := hBpmr.grow hG3
  replace hBpms := hBpms.grow hG3
  replace hBpmf := hBpmf.grow hG3
  replace hT := hT.trans hG3
  replace hQ := hQ.trans hG3
  clear hG3
  obtain ⟨tmsa, tmsn, tmsc, rfl, hCmsx⟩ := hCms
  replace hCms : OM w3 (New w2 w3) (.agg #[.int .i64 (ms).rows, .int .i64 (ms).cols, .slice tmsa tmsn tmsc]) ms := ⟨_, _, _, rfl, hCmsx⟩
  clear hCmsx
  go_wp2_with fail
  refine hK _ _ (hQ) ?_
  clear hK K
  show wpQuiet _ _ _ _ [] _
  try (conv => arg 6; simp only [Act.put, List.setIfInBounds_toArray, List.set_cons_succ, List.set_cons_zero])
  refine wpQuiet_nil ?_
  refine seg_go rfl (fun K hK => ?_)
  go_wp2_with fail
  refine (to_M hAmf hBmf).mono ?_
  rintro e w4 ⟨tmf, rfl, hCmf, hG4⟩
  have hs4 := hG4.size
  replace hAmr := hAmr.grow hG4
  replace hAms := hAms.grow hG4
  replace hAmf := hAmf.grow hG4
  replace hCmr := hCmr.grow hG4
  replace hCms := hCms.grow hG4
  replace hBpmr := hBpmr.grow hG4
  replace hBpms := hBpms.grow hG4
  replace hBpmf := hBpmf.grow hG4
  replace hT := hT.trans hG4
  replace hQ := hQ.trans hG4
  clear hG4
  obtain ⟨tmfa, tmfn, tmfc, rfl, hCmfx⟩ := hCmf
  replace hCmf : OM w4 (New w3 w4) (.agg #[.int .i64 (mf).rows, .int .i64 (mf).cols, .slice tmfa tmfn tmfc]) mf := ⟨_, _, _, rfl, hCmfx⟩
  clear hCmfx
  go_wp2_with fail
  refine hK _ _ (hQ) ?_
  clear hK K
  show wpQuiet _ _ _ _ [] _
  try (conv => arg 6; simp only [Act.put, List.setIfInBounds_toArray, List.set_cons_succ, List.set_cons_zero])
  refine wpQuiet_nil ?_
  refine seg_go rfl (fun K hK => ?_)
  go_wp2_with fail
  refine (spec_V (hCmr.rd (S := fun _ => True) fun _ _ => trivial) hBmr (hCms.rd (S := fun _ => True) fun _ _ => trivial) hBms (hCmf.rd (S := fun _ => True) fun _ _ => trivial) hBmf).mono ?_
  rintro e w5 ⟨a0, rfl, hVa0, hG5⟩
  clear hCmr
  clear hCms
  clear hCmf
  have hs5 := hG5.size
  replace hAmr := hAmr.grow hG5
  replace hAms := hAms.grow hG5
  replace hAmf := hAmf.grow hG5
  replace hBpmr := hBpmr.grow hG5
  replace hBpms := hBpms.grow hG5
  replace hBpmf := hBpmf.grow hG5
  replace hT := hT.trans hG5
  replace hQ := hQ.trans hG5
  clear hG5
  go_wp2_with fail
  refine hK _ _ (hQ) ?_
  clear hK K
  show wpQuiet _ _ _ _ [_, _, _, _, _, _, _] _
  try (conv => arg 6; simp only [Act.put, List.setIfInBounds_toArray, List.set_cons_succ, List.set_cons_zero])
  repeat (first | go_big_quiet_skip | (go_big_quiet_want; first | (apply quiet_load3 T_lmat; rfl; rfl; exact (fun w' hG => hBpmr.grow hG); go_big_quiet_on; simp only [Act.put, List.setIfInBounds_toArray, List.set_cons_succ, List.set_cons_zero]) | (apply quiet_load3 T_lmat; rfl; rfl; exact (fun w' hG => hBpms.grow hG); go_big_quiet_on; simp only [Act.put, List.setIfInBounds_toArray, List.set_cons_succ, List.set_cons_zero]) | (apply quiet_load3 T_lmat; rfl; rfl; exact (fun w' hG => hBpmf.grow hG); go_big_quiet_on; simp only [Act.put, List.setIfInBounds_toArray, List.set_cons_succ, List.set_cons_zero]) | (go_big_quiet_op; first | go_big_quiet_on | (refine ⟨_, (fun _ _ => rfl), ?_⟩; go_big_quiet_on))))
  refine wpQuiet_nil ?_
  clear hQ
  refine wpSegs_nil ?_
  have hW0 : VI w5 (fun b => b < w5.heap.size) a0 (rB mr ms mf) := hVa0.weak fun _ hb _ => hb
  clear hVa0
  obtain ⟨⟨pchBpmr0_28, pchBpmr1_28, pchBpmr2_28⟩, -⟩ := hBpmr.three
  obtain ⟨⟨pchBpms0_29, pchBpms1_29, pchBpms2_29⟩, -⟩ := hBpms.three
  obtain ⟨⟨pchBpmf0_30, pchBpmf1_30, pchBpmf2_30⟩, -⟩ := hBpmf.three
  go_wp2_with fail
  clear pchBpmr0_28 pchBpmr1_28 pchBpmr2_28
  clear pchBpms0_29 pchBpms1_29 pchBpms2_29
  clear pchBpmf0_30 pchBpmf1_30 pchBpmf2_30
  refine (to_M hAmr hBmr).mono ?_
  rintro e w6 ⟨xmr, rfl, hXmr, hG6⟩
  have hs6 := hG6.size
  replace hAmr := hAmr.grow hG6
  replace hAms := hAms.grow hG6
  replace hAmf := hAmf.grow hG6
  replace hW0 := hW0.grow hG6
  replace hBpmr := hBpmr.grow hG6
  replace hBpms := hBpms.grow hG6
  replace hBpmf := hBpmf.grow hG6
  replace hT := hT.trans hG6
  clear hG6
  obtain ⟨xmra, xmrn, xmrc, rfl, hXmrx⟩ := hXmr
  replace hXmr : OM w6 (New w5 w6) (.agg #[.int .i64 (mr).rows, .int .i64 (mr).cols, .slice xmra xmrn xmrc]) mr := ⟨_, _, _, rfl, hXmrx⟩
  clear hXmrx
  have hGa := (Grow.refl w6).alloc #[.int .i64 (mr).rows, .int .i64 (mr).cols, .slice xmra xmrn xmrc] 28
  have hBkxmr := Blk.newAt w6 #[.int .i64 (mr).rows, .int .i64 (mr).cols, .slice xmra xmrn xmrc] 28 rfl
  replace hAmr := hAmr.grow hGa
  replace hAms := hAms.grow hGa
  replace hAmf := hAmf.grow hGa
  replace hW0 := hW0.grow hGa
  replace hXmr := hXmr.grow hGa
  replace hBpmr := hBpmr.grow hGa
  replace hBpms := hBpms.grow hGa
  replace hBpmf := hBpmf.grow hGa
  replace hT := hT.trans hGa
  have hsa6 := hGa.size
  have hsb6 := hBkxmr.lt
  clear hGa
  obtain ⟨⟨chBkxmr0, chBkxmr1, chBkxmr2⟩, -⟩ := hBkxmr.three
  obtain ⟨⟨pchBpmr0_31, pchBpmr1_31, pchBpmr2_31⟩, -⟩ := hBpmr.three
  obtain ⟨⟨pchBpms0_32, pchBpms1_32, pchBpms2_32⟩, -⟩ := hBpms.three
  obtain ⟨⟨pchBpmf0_33, pchBpmf1_33, pchBpmf2_33⟩, -⟩ := hBpmf.three
  go_wp2_with fail
  clear chBkxmr0
  clear chBkxmr1
  clear chBkxmr2
  clear pchBpmr0_31 pchBpmr1_31 pchBpmr2_31
  clear pchBpms0_32 pchBpms1_32 pchBpms2_32
  clear pchBpmf0_33 pchBpmf1_33 pchBpmf2_33
  refine (to_M hAms hBms).mono ?_
  rintro e w7 ⟨xms, rfl, hXms, hG7⟩
  have hs7 := hG7.size
  replace hAmr := hAmr.grow hG7
  replace hAms := hAms.grow hG7
  replace hAmf := hAmf.grow hG7
  replace hW0 := hW0.grow hG7
  replace hXmr := hXmr.grow hG7
  replace hBkxmr := hBkxmr.grow hG7
  replace hBpmr := hBpmr.grow hG7
  replace hBpms := hBpms.grow hG7
  replace hBpmf := hBpmf.grow hG7
  replace hT := hT.trans hG7
  clear hG7
  obtain ⟨xmsa, xmsn, xmsc, rfl, hXmsx⟩ := hXms
  replace hXms : OM w7 (fun b => w6.heap.size < b ∧ b < w7.heap.size) (.agg #[.int .i64 (ms).rows, .int .i64 (ms).cols, .slice xmsa xmsn xmsc]) ms := (show OM w7 (New _ w7) (.agg #[.int .i64 (ms).rows, .int .i64 (ms).cols, .slice xmsa xmsn xmsc]) ms from ⟨_, _, _, rfl, hXmsx⟩).weak (fun b _ hb => ⟨Nat.le_trans hsb6 hb.1, hb.2⟩)
  clear hXmsx
  have hGa := (Grow.refl w7).alloc #[.int .i64 (ms).rows, .int .i64 (ms).cols, .slice xmsa xmsn xmsc] 28
  have hBkxms := Blk.newAt w7 #[.int .i64 (ms).rows, .int .i64 (ms).cols, .slice xmsa xmsn xmsc] 28 rfl
  replace hAmr := hAmr.grow hGa
  replace hAms := hAms.grow hGa
  replace hAmf := hAmf.grow hGa
  replace hW0 := hW0.grow hGa
  replace hXmr := hXmr.grow hGa
  replace hXms := hXms.grow hGa
  replace hBkxmr := hBkxmr.grow hGa
  replace hBpmr := hBpmr.grow hGa
  replace hBpms := hBpms.grow hGa
  replace hBpmf := hBpmf.grow hGa
  replace hT := hT.trans hGa
  have hsa7 := hGa.size
  have hsb7 := hBkxms.lt
  clear hGa
  obtain ⟨⟨chBkxmr0, chBkxmr1, chBkxmr2⟩, -⟩ := hBkxmr.three
  obtain ⟨⟨chBkxms0, chBkxms1, chBkxms2⟩, -⟩ := hBkxms.three
  obtain ⟨⟨pchBpmr0_34, pchBpmr1_34, pchBpmr2_34⟩, -⟩ := hBpmr.three
  obtain ⟨⟨pchBpms0_35, pchBpms1_35, pchBpms2_35⟩, -⟩ := hBpms.three
  obtain ⟨⟨pchBpmf0_36, pchBpmf1_36, pchBpmf2_36⟩, -⟩ := hBpmf.three
  go_wp2_with fail
  clear chBkxmr0
  clear chBkxmr1
  clear chBkxmr2
  clear chBkxms0
  clear chBkxms1
  clear chBkxms2
  clear pchBpmr0_34 pchBpmr1_34 pchBpmr2_34
  clear pchBpms0_35 pchBpms1_35 pchBpms2_35
  clear pchBpmf0_36 pchBpmf1_36 pchBpmf2_36
  refine (to_M hAmf hBmf).mono ?_
  rintro e w8 ⟨xmf, rfl, hXmf, hG8⟩
  have hs8 := hG8.size
  replace hAmr := hAmr.grow hG8
  replace hAms := hAms.grow hG8
  replace hAmf := hAmf.grow hG8
  replace hW0 := hW0.grow hG8
  replace hXmr := hXmr.grow hG8
  replace hXms := hXms.grow hG8
  replace hBkxmr := hBkxmr.grow hG8
  replace hBkxms := hBkxms.grow hG8
  replace hBpmr := hBpmr.grow hG8
  replace hBpms := hBpms.grow hG8
  replace hBpmf := hBpmf.grow hG8
  replace hT := hT.trans hG8
  clear hG8
  obtain ⟨xmfa, xmfn, xmfc, rfl, hXmfx⟩ := hXmf
  replace hXmf : OM w8 (fun b => w7.heap.size < b ∧ b < w8.heap.size) (.agg #[.int .i64 (mf).rows, .int .i64 (mf).cols, .slice xmfa xmfn xmfc]) mf := (show OM w8 (New _ w8) (.agg #[.int .i64 (mf).rows, .int .i64 (mf).cols, .slice xmfa xmfn xmfc]) mf from ⟨_, _, _, rfl, hXmfx⟩).weak (fun b _ hb => ⟨Nat.le_trans hsb7 hb.1, hb.2⟩)
  clear hXmfx
  have hGa := (Grow.refl w8).alloc #[.int .i64 (mf).rows, .int .i64 (mf).cols, .slice xmfa xmfn xmfc] 28
  have hBkxmf := Blk.newAt w8 #[.int .i64 (mf).rows, .int .i64 (mf).cols, .slice xmfa xmfn xmfc] 28 rfl
  replace hAmr := hAmr.grow hGa
  replace hAms := hAms.grow hGa
  replace hAmf := hAmf.grow hGa
  replace hW0 := hW0.grow hGa
  replace hXmr := hXmr.grow hGa
  replace hXms := hXms.grow hGa
  replace hXmf := hXmf.grow hGa
  replace hBkxmr := hBkxmr.grow hGa
  replace hBkxms := hBkxms.grow hGa
  replace hBpmr := hBpmr.grow hGa
  replace hBpms := hBpms.grow hGa
  replace hBpmf := hBpmf.grow hGa
  replace hT := hT.trans hGa
  have hsa8 := hGa.size
  have hsb8 := hBkxmf.lt
  clear hGa
  obtain ⟨⟨chBkxmr0, chBkxmr1, chBkxmr2⟩, -⟩ := hBkxmr.three
  obtain ⟨⟨chBkxms0, chBkxms1, chBkxms2⟩, -⟩ := hBkxms.three
  obtain ⟨⟨chBkxmf0, chBkxmf1, chBkxmf2⟩, -⟩ := hBkxmf.three
  obtain ⟨⟨pchBpmr0_37, pchBpmr1_37, pchBpmr2_37⟩, -⟩ := hBpmr.three
  obtain ⟨⟨pchBpms0_38, pchBpms1_38, pchBpms2_38⟩, -⟩ := hBpms.three
  obtain ⟨⟨pchBpmf0_39, pchBpmf1_39, pchBpmf2_39⟩, -⟩ := hBpmf.three
  go_wp2_with fail
  clear chBkxmr0
  clear chBkxmr1
  clear chBkxmr2
  clear chBkxms0
  clear chBkxms1
  clear chBkxms2
  clear chBkxmf0
  clear chBkxmf1
  clear chBkxmf2
  clear pchBpmr0_37 pchBpmr1_37 pchBpmr2_37
  clear pchBpms0_38 pchBpms1_38 pchBpms2_38
  clear pchBpmf0_39 pchBpmf1_39 pchBpmf2_39
  refine (impl_V (hXmr.rd (S := fun _ => True) fun _ _ => trivial) hBmr (hXms.rd (S := fun _ => True) fun _ _ => trivial) hBms (hXmf.rd (S := fun _ => True) fun _ _ => trivial) hBmf).mono ?_
  rintro e w9 ⟨g0, rfl, hVg0, hG9⟩
  have hs9 := hG9.size
  replace hAmr := hAmr.grow hG9
  replace hAms := hAms.grow hG9
  replace hAmf := hAmf.grow hG9
  replace hW0 := hW0.grow hG9
  replace hXmr := hXmr.grow hG9
  replace hXms := hXms.grow hG9
  replace hXmf := hXmf.grow hG9
  replace hBkxmr := hBkxmr.grow hG9
  replace hBkxms := hBkxms.grow hG9
  replace hBkxmf := hBkxmf.grow hG9
  replace hBpmr := hBpmr.grow hG9
  replace hBpms := hBpms.grow hG9
  replace hBpmf := hBpmf.grow hG9
  replace hT := hT.trans hG9
  clear hG9
  obtain ⟨⟨chBkxmr0, chBkxmr1, chBkxmr2⟩, -⟩ := hBkxmr.three
  obtain ⟨⟨chBkxms0, chBkxms1, chBkxms2⟩, -⟩ := hBkxms.three
  obtain ⟨⟨chBkxmf0, chBkxmf1, chBkxmf2⟩, -⟩ := hBkxmf.three
  obtain ⟨⟨pchBpmr0_40, pchBpmr1_40, pchBpmr2_40⟩, -⟩ := hBpmr.three
  obtain ⟨⟨pchBpms0_41, pchBpms1_41, pchBpms2_41⟩, -⟩ := hBpms.three
  obtain ⟨⟨pchBpmf0_42, pchBpmf1_42, pchBpmf2_42⟩, -⟩ := hBpmf.three
  go_wp2_with fail
  clear chBkxmr0
  clear chBkxmr1
  clear chBkxmr2
  clear chBkxms0
  clear chBkxms1
  clear chBkxms2
  clear chBkxmf0
  clear chBkxmf1
  clear chBkxmf2
  clear pchBpmr0_40 pchBpmr1_40 pchBpmr2_40
  clear pchBpms0_41 pchBpms1_41 pchBpms2_41
  clear pchBpmf0_42 pchBpmf1_42 pchBpmf2_42
  refine (eq_I (hVg0.rd (S := fun _ => True) fun _ _ => trivial) hW0 hB_0).mono ?_
  rintro e w10 ⟨rfl, hG10⟩
  have hs10 := hG10.size
  replace hAmr := hAmr.grow hG10
  replace hAms := hAms.grow hG10
  replace hAmf := hAmf.grow hG10
  replace hW0 := hW0.grow hG10
  replace hXmr := hXmr.grow hG10
  replace hXms := hXms.grow hG10
  replace hXmf := hXmf.grow hG10
  replace hVg0 := hVg0.grow hG10
  replace hBkxmr := hBkxmr.grow hG10
  replace hBkxms := hBkxms.grow hG10
  replace hBkxmf := hBkxmf.grow hG10
  replace hBpmr := hBpmr.grow hG10
  replace hBpms := hBpms.grow hG10
  replace hBpmf := hBpmf.grow hG10
  replace hT := hT.trans hG10
  clear hG10
  obtain ⟨⟨chBkxmr0, chBkxmr1, chBkxmr2⟩, -⟩ := hBkxmr.three
  obtain ⟨⟨chBkxms0, chBkxms1, chBkxms2⟩, -⟩ := hBkxms.three
  obtain ⟨⟨chBkxmf0, chBkxmf1, chBkxmf2⟩, -⟩ := hBkxmf.three
  obtain ⟨⟨pchBpmr0_43, pchBpmr1_43, pchBpmr2_43⟩, -⟩ := hBpmr.three
  obtain ⟨⟨pchBpms0_44, pchBpms1_44, pchBpms2_44⟩, -⟩ := hBpms.three
  obtain ⟨⟨pchBpmf0_45, pchBpmf1_45, pchBpmf2_45⟩, -⟩ := hBpmf.three
  go_wp2_with fail
  clear chBkxmr0
  clear chBkxmr1
  clear chBkxmr2
  clear chBkxms0
  clear chBkxms1
  clear chBkxms2
  clear chBkxmf0
  clear chBkxmf1
  clear chBkxmf2
  clear pchBpmr0_43 pchBpmr1_43 pchBpmr2_43
  clear pchBpms0_44 pchBpms1_44 pchBpms2_44
  clear pchBpmf0_45 pchBpmf1_45 pchBpmf2_45
  refine wp_region_segs (S := Grow w10) [([0, 1], some 2), ([], some 3), ([4], none)] P_mixed (by kernel_rfl) (fun _ _ _ _ _ h => h) (Grow.refl _).drew ?_
  show wpQuiet _ _ _ _ [_, _] _
  repeat (first | go_big_quiet_skip | (go_big_quiet_want; first | (apply quiet_load3 T_mat; rfl; rfl; exact (fun w' hG => hBkxmr.grow hG); go_big_quiet_on; simp only [Act.put, List.setIfInBounds_toArray, List.set_cons_succ, List.set_cons_zero]) | (apply quiet_load3 T_lmat; rfl; rfl; exact (fun w' hG => hBpmr.grow hG); go_big_quiet_on; simp only [Act.put, List.setIfInBounds_toArray, List.set_cons_succ, List.set_cons_zero]) | (go_big_quiet_op; first | go_big_quiet_on | (refine ⟨_, (fun _ _ => rfl), ?_⟩; go_big_quiet_on))))
  refine wpQuiet_nil ?_
  generalize hwd : w10.drew = w11
  have hQ : Grow w10 w11 := by rw [← hwd]; exact (Grow.refl _).drew
  clear hwd
  have hs11 := hQ.size
  replace hAmr := hAmr.grow hQ
  replace hAms := hAms.grow hQ
  replace hAmf := hAmf.grow hQ
  replace hW0 := hW0.grow hQ
  replace hXmr := hXmr.grow hQ
  replace hXms := hXms.grow hQ
  replace hXmf := hXmf.grow hQ
  replace hVg0 := hVg0.grow hQ
  replace hBkxmr := hBkxmr.grow hQ
  replace hBkxms := hBkxms.grow hQ
  replace hBkxmf := hBkxmf.grow hQ
  replace hBpmr := hBpmr.grow hQ
  replace hBpms := hBpms.grow hQ
  replace hBpmf := hBpmf.grow hQ
  replace hT := hT.trans hQ
  refine seg_go rfl (fun K hK => ?_)
  go_wp2_with fail
  refine (to_M hAmr hBmr).mono ?_
  rintro e w12 ⟨tmr, rfl, hCmr, hG12⟩
  have hs12 := hG12.size
  replace hAmr := hAmr.grow hG12
  replace hAms := hAms.grow hG12
  replace hAmf := hAmf.grow hG12
  replace hW0 := hW0.grow hG12
  replace hXmr := hXmr.grow hG12
  replace hXms := hXms.grow hG12
  replace hXmf := hXmf.grow hG12
  replace hVg0 := hVg0.grow hG12
  replace hBkxmr := hBkxmr.grow hG12
  replace hBkxms := hBkxms.grow hG12
  replace hBkxmf := hBkxmf.grow hG12
  replace hBpmr := hBpmr.grow hG12
  replace hBpms := hBpms.grow hG12
  replace hBpmf := hBpmf.grow hG12
  replace hT := hT.trans hG12
  replace hQ := hQ.trans hG12
  clear hG12
  obtain ⟨tmra, tmrn, tmrc, rfl, hCmrx⟩ := hCmr
  replace hCmr : OM w12 (New w11 w12) (.agg #[.int .i64 (mr).rows, .int .i64 (mr).cols, .slice tmra tmrn tmrc]) mr := ⟨_, _, _, rfl, hCmrx⟩
  clear hCmrx
  go_wp2_with fail
  refine hK _ _ (hQ) ?_
  clear hK K
  show wpQuiet _ _ _ _ [] _
  try (conv => arg 6; simp only [Act.put, List.setIfInBounds_toArray, List.set_cons_succ, List.set_cons_zero])
  refine wpQuiet_nil ?_
  refine seg_go rfl (fun K hK => ?_)
  go_wp2_with fail
  refine (eq_M (hXmr.rd (S := fun _ => True) fun _ _ => trivial) (hCmr.rd (S := fun _ => True) fun _ _ => trivial) (by omega)).mono ?_
  rintro e w13 ⟨rfl, hG13⟩
  have hs13 := hG13.size
  replace hAmr := hAmr.grow hG13
  replace hAms := hAms.grow hG13
  replace hAmf := hAmf.grow hG13
  replace hW0 := hW0.grow hG13
  replace hXmr := hXmr.grow hG13
  replace hXms := hXms.grow hG13
  replace hXmf := hXmf.grow hG13
  replace hVg0 := hVg0.grow hG13
  replace hBkxmr := hBkxmr.grow hG13
  replace hBkxms := hBkxms.grow hG13
  replace hBkxmf := hBkxmf.grow hG13
  replace hBpmr := hBpmr.grow hG13
  replace hBpms := hBpms.grow hG13
  replace hBpmf := hBpmf.grow hG13
  replace hT := hT.trans hG13
  replace hQ := hQ.trans hG13
  clear hG13 hCmr
  go_wp2_with fail
  refine hK _ _ (hQ) ?_
  clear hK K
  show wpQuiet _ _ _ _ [_] _
  try (conv => arg 6; simp only [Act.put, List.setIfInBounds_toArray, List.set_cons_succ, List.set_cons_zero])
  repeat (first | go_big_quiet_skip | (go_big_quiet_want; first | (apply quiet_load3 T_mat; rfl; rfl; exact (fun w' hG => hBkxmr.grow hG); go_big_quiet_on; simp only [Act.put, List.setIfInBounds_toArray, List.set_cons_succ, List.set_cons_zero]) | (apply quiet_load3 T_lmat; rfl; rfl; exact (fun w' hG => hBpmr.grow hG); go_big_quiet_on; simp only [Act.put, List.setIfInBounds_toArray, List.set_cons_succ, List.set_cons_zero]) | (go_big_quiet_op; first | go_big_quiet_on | (refine ⟨_, (fun _ _ => rfl), ?_⟩; go_big_quiet_on))))
  refine wpQuiet_nil ?_
  clear hQ
  refine wpSegs_nil ?_
  obtain ⟨⟨chBkxmr0, chBkxmr1, chBkxmr2⟩, -⟩ := hBkxmr.three
  obtain ⟨⟨chBkxms0, chBkxms1, chBkxms2⟩, -⟩ := hBkxms.three
  obtain ⟨⟨chBkxmf0, chBkxmf1, chBkxmf2⟩, -⟩ := hBkxmf.three
  obtain ⟨⟨pchBpmr0_46, pchBpmr1_46, pchBpmr2_46⟩, -⟩ := hBpmr.three
  obtain ⟨⟨pchBpms0_47, pchBpms1_47, pchBpms2_47⟩, -⟩ := hBpms.three
  obtain ⟨⟨pchBpmf0_48, pchBpmf1_48, pchBpmf2_48⟩, -⟩ := hBpmf.three
  go_wp2_with fail
  clear chBkxmr0
  clear chBkxmr1
  clear chBkxmr2
  clear chBkxms0
  clear chBkxms1
  clear chBkxms2
  clear chBkxmf0
  clear chBkxmf1
  clear chBkxmf2
  clear pchBpmr0_46 pchBpmr1_46 pchBpmr2_46
  clear pchBpms0_47 pchBpms1_47 pchBpms2_47
  clear pchBpmf0_48 pchBpmf1_48 pchBpmf2_48
  refine wp_region_segs (S := Grow w13) [([0, 1], some 2), ([], some 3), ([4], none)] P_mixed (by kernel_rfl) (fun _ _ _ _ _ h => h) (Grow.refl _).drew ?_
  show wpQuiet _ _ _ _ [_, _] _
  repeat (first | go_big_quiet_skip | (go_big_quiet_want; first | (apply quiet_load3 T_mat; rfl; rfl; exact (fun w' hG => hBkxms.grow hG); go_big_quiet_on; simp only [Act.put, List.setIfInBounds_toArray, List.set_cons_succ, List.set_cons_zero]) | (apply quiet_load3 T_lmat; rfl; rfl; exact (fun w' hG => hBpms.grow hG); go_big_quiet_on; simp only [Act.put, List.setIfInBounds_toArray, List.set_cons_succ, List.set_cons_zero]) | (go_big_quiet_op; first | go_big_quiet_on | (refine ⟨_, (fun _ _ => rfl), ?_⟩; go_big_quiet_on))))
  refine wpQuiet_nil ?_
  generalize hwd : w13.drew = w14
  have hQ : Grow w13 w14 := by rw [← hwd]; exact (Grow.refl _).drew
  clear hwd
  have hs14 := hQ.size
  replace hAmr := hAmr.grow hQ
  replace hAms := hAms.grow hQ
  replace hAmf := hAmf.grow hQ
  replace hW0 := hW0.grow hQ
  replace hXmr := hXmr.grow hQ
  replace hXms := hXms.grow hQ
  replace hXmf := hXmf.grow hQ
  replace hVg0 := hVg0.grow hQ
  replace hBkxmr := hBkxmr.grow hQ
  replace hBkxms := hBkxms.grow hQ
  replace hBkxmf := hBkxmf.grow hQ
  replace hBpmr := hBpmr.grow hQ
  replace hBpms := hBpms.grow hQ
  replace hBpmf := hBpmf.grow hQ
  replace hT := hT.trans hQ
  refine seg_go rfl (fun K hK => ?_)
  go_wp2_with fail
  refine (to_M hAms hBms).mono ?_
  rintro e w15 ⟨tms, rfl, hCms, hG15⟩
  have hs15 := hG15.size
  replace hAmr := hAmr.grow hG15
  replace hAms := hAms.grow hG15
  replace hAmf := hAmf.grow hG15
  replace hW0 := hW0.grow hG15
  replace hXmr := hXmr.grow hG15
  replace hXms := hXms.grow hG15
  replace hXmf := hXmf.grow hG15
  replace hVg0 := hVg0.grow hG15
  replace hBkxmr := hBkxmr.grow hG15
  replace hBkxms := hBkxms.grow hG15
  replace hBkxmf := hBkxmf.grow hG15
  replace hBpmr := hBpmr.grow hG15
  replace hBpms := hBpms.grow hG15
  replace hBpmf := hBpmf.grow hG15
  replace hT := hT.trans hG15
  replace hQ := hQ.trans hG15
  clear hG15
  obtain ⟨tmsa, tmsn, tmsc, rfl, hCmsx⟩ := hCms
  replace hCms : OM w15 (New w14 w15) (.agg #[.int .i64 (ms).rows, .int .i64 (ms).cols, .slice tmsa tmsn tmsc]) ms := ⟨_, _, _, rfl, hCmsx⟩
  clear hCmsx
  go_wp2_with fail
  refine hK _ _ (hQ) ?_
  clear hK K
  show wpQuiet _ _ _ _ [] _
  try (conv => arg 6; simp only [Act.put, List.setIfInBounds_toArray, List.set_cons_succ, List.set_cons_zero])
  refine wpQuiet_nil ?_
  refine seg_go rfl (fun K hK => ?_)
  go_wp2_with fail
  refine (eq_M (hXms.rd (S := fun _ => True) fun _ _ => trivial) (hCms.rd (S := fun _ => True) fun _ _ => trivial) (by omega)).mono ?_
  rintro e w16 ⟨rfl, hG16⟩
  have hs16 := hG16.size
  replace hAmr := hAmr.grow hG16
  replace hAms := hAms.grow hG16
  replace hAmf := hAmf.grow hG16
  replace hW0 := hW0.grow hG16
  replace hXmr := hXmr.grow hG16
  replace hXms := hXms.grow hG16
  replace hXmf := hXmf.grow hG16
  replace hVg0 := hVg0.grow hG16
  replace hBkxmr := hBkxmr.grow hG16
  replace hBkxms := hBkxms.grow hG16
  replace hBkxmf := hBkxmf.grow hG16
  replace hBpmr := hBpmr.grow hG16
  replace hBpms := hBpms.grow hG16
  replace hBpmf := hBpmf.grow hG16
  replace hT := hT.trans hG16
  replace hQ := hQ.trans hG16
  clear hG16 hCms
  go_wp2_with fail
  refine hK _ _ (hQ) ?_
  clear hK K
  show wpQuiet _ _ _ _ [_] _
  try (conv => arg 6; simp only [Act.put, List.setIfInBounds_toArray, List.set_cons_succ, List.set_cons_zero])
  repeat (first | go_big_quiet_skip | (go_big_quiet_want; first | (apply quiet_load3 T_mat; rfl; rfl; exact (fun w' hG => hBkxms.grow hG); go_big_quiet_on; simp only [Act.put, List.setIfInBounds_toArray, List.set_cons_succ, List.set_cons_zero]) | (apply quiet_load3 T_lmat; rfl; rfl; exact (fun w' hG => hBpms.grow hG); go_big_quiet_on; simp only [Act.put, List.setIfInBounds_toArray, List.set_cons_succ, List.set_cons_zero]) | (go_big_quiet_op; first | go_big_quiet_on | (refine ⟨_, (fun _ _ => rfl), ?_⟩; go_big_quiet_on))))
  refine wpQuiet_nil ?_
  clear hQ
  refine wpSegs_nil ?_
  obtain ⟨⟨chBkxmr0, chBkxmr1, chBkxmr2⟩, -⟩ := hBkxmr.three
  obtain ⟨⟨chBkxms0, chBkxms1, chBkxms2⟩, -⟩ := hBkxms.three
  obtain ⟨⟨chBkxmf0, chBkxmf1, chBkxmf2⟩, -⟩ := hBkxmf.three
  obtain ⟨⟨pchBpmr0_49, pchBpmr1_49, pchBpmr2_49⟩, -⟩ := hBpmr.three
  obtain ⟨⟨pchBpms0_50, pchBpms1_50, pchBpms2_50⟩, -⟩ := hBpms.three
  obtain ⟨⟨pchBpmf0_51, pchBpmf1_51, pchBpmf2_51⟩, -⟩ := hBpmf.three
  go_wp2_with fail
  clear chBkxmr0
  clear chBkxmr1
  clear chBkxmr2
  clear chBkxms0
  clear chBkxms1
  clear chBkxms2
  clear chBkxmf0
  clear chBkxmf1
  clear chBkxmf2
  clear pchBpmr0_49 pchBpmr1_49 pchBpmr2_49
  clear pchBpms0_50 pchBpms1_50 pchBpms2_50
  clear pchBpmf0_51 pchBpmf1_51 pchBpmf2_51
  refine wp_region_segs (S := Grow w16) [([0, 1], some 2), ([], some 3), ([4], none)] P_mixed (by kernel_rfl) (fun _ _ _ _ _ h => h) (Grow.refl _).drew ?_
  show wpQuiet _ _ _ _ [_, _] _
  repeat (first | go_big_quiet_skip | (go_big_quiet_want; first | (apply quiet_load3 T_mat; rfl; rfl; exact (fun w' hG => hBkxmf.grow hG); go_big_quiet_on; simp only [Act.put, List.setIfInBounds_toArray, List.set_cons_succ, List.set_cons_zero]) | (apply quiet_load3 T_lmat; rfl; rfl; exact (fun w' hG => hBpmf.grow hG); go_big_quiet_on; simp only [Act.put, List.setIfInBounds_toArray, List.set_cons_succ, List.set_cons_zero]) | (go_big_quiet_op; first | go_big_quiet_on | (refine ⟨_, (fun _ _ => rfl), ?_⟩; go_big_quiet_on))))
  refine wpQuiet_nil ?_
  generalize hwd : w16.drew = w17
  have hQ : Grow w16 w17 := by rw [← hwd]; exact (Grow.refl _).drew
  clear hwd
  have hs17 := hQ.size
  replace hAmr := hAmr.grow hQ
  replace hAms := hAms.grow hQ
  replace hAmf := hAmf.grow hQ
  replace hW0 := hW0.grow hQ
  replace hXmr := hXmr.grow hQ
  replace hXms := hXms.grow hQ
  replace hXmf := hXmf.grow hQ
  replace hVg0 := hVg0.grow hQ
  replace hBkxmr := hBkxmr.grow hQ
  replace hBkxms := hBkxms.grow hQ
  replace hBkxmf := hBkxmf.grow hQ
  replace hBpmr := hBpmr.grow hQ
  replace hBpms := hBpms.grow hQ
  replace hBpmf := hBpmf.grow hQ
  replace hT := hT.trans hQ
  refine seg_go rfl (fun K hK => ?_)
  go_wp2_with fail
  refine (to_M hAmf hBmf).mono ?_
  rintro e w18 ⟨tmf, rfl, hCmf, hG18⟩
  have hs18 := hG18.size
  replace hAmr := hAmr.grow hG18
  replace hAms := hAms.grow hG18
  replace hAmf := hAmf.grow hG18
  replace hW0 := hW0.grow hG18
  replace hXmr := hXmr.grow hG18
  replace hXms := hXms.grow hG18
  replace hXmf := hXmf.grow hG18
  replace hVg0 := hVg0.grow hG18
  replace hBkxmr := hBkxmr.grow hG18
  replace hBkxms := hBkxms.grow hG18
  replace hBkxmf := hBkxmf.grow hG18
  replace hBpmr := hBpmr.grow hG18
  replace hBpms := hBpms.grow hG18
  replace hBpmf := hBpmf.grow hG18
  replace hT := hT.trans hG18
  replace hQ := hQ.trans hG18
  clear hG18
  obtain ⟨tmfa, tmfn, tmfc, rfl, hCmfx⟩ := hCmf
  replace hCmf : OM w18 (New w17 w18) (.agg #[.int .i64 (mf).rows, .int .i64 (mf).cols, .slice tmfa tmfn tmfc]) mf := ⟨_, _, _, rfl, hCmfx⟩
  clear hCmfx
  go_wp2_with fail
  refine hK _ _ (hQ) ?_
  clear hK K
  show wpQuiet _ _ _ _ [] _
  try (conv => arg 6; simp only [Act.put, List.setIfInBounds_toArray, List.set_cons_succ, List.set_cons_zero])
  refine wpQuiet_nil ?_
  refine seg_go rfl (fun K hK => ?_)
  go_wp2_with fail
  refine (eq_M (hXmf.rd (S := fun _ => True) fun _ _ => trivial) (hCmf.rd (S := fun _ => True) fun _ _ => trivial) (by omega)).mono ?_
  rintro e w19 ⟨rfl, hG19⟩
  have hs19 := hG19.size
  replace hAmr := hAmr.grow hG19
  replace hAms := hAms.grow hG19
  replace hAmf := hAmf.grow hG19
  replace hW0 := hW0.grow hG19
  replace hXmr := hXmr.grow hG19
  replace hXms := hXms.grow hG19
  replace hXmf := hXmf.grow hG19
  replace hVg0 := hVg0.grow hG19
  replace hBkxmr := hBkxmr.grow hG19
  replace hBkxms := hBkxms.grow hG19
  replace hBkxmf := hBkxmf.grow hG19
  replace hBpmr := hBpmr.grow hG19
  replace hBpms := hBpms.grow hG19
  replace hBpmf := hBpmf.grow hG19
  replace hT := hT.trans hG19
  replace hQ := hQ.trans hG19
  clear hG19 hCmf
  go_wp2_with fail
  refine hK _ _ (hQ) ?_
  clear hK K
  show wpQuiet _ _ _ _ [_] _
  try (conv => arg 6; simp only [Act.put, List.setIfInBounds_toArray, List.set_cons_succ, List.set_cons_zero])
  repeat (first | go_big_quiet_skip | (go_big_quiet_want; first | (apply quiet_load3 T_mat; rfl; rfl; exact (fun w' hG => hBkxmf.grow hG); go_big_quiet_on; simp only [Act.put, List.setIfInBounds_toArray, List.set_cons_succ, List.set_cons_zero]) | (apply quiet_load3 T_lmat; rfl; rfl; exact (fun w' hG => hBpmf.grow hG); go_big_quiet_on; simp only [Act.put, List.setIfInBounds_toArray, List.set_cons_succ, List.set_cons_zero]) | (go_big_quiet_op; first | go_big_quiet_on | (refine ⟨_, (fun _ _ => rfl), ?_⟩; go_big_quiet_on))))
  refine wpQuiet_nil ?_
  clear hQ
  refine wpSegs_nil ?_
  obtain ⟨⟨chBkxmr0, chBkxmr1, chBkxmr2⟩, -⟩ := hBkxmr.three
  obtain ⟨⟨chBkxms0, chBkxms1, chBkxms2⟩, -⟩ := hBkxms.three
  obtain ⟨⟨chBkxmf0, chBkxmf1, chBkxmf2⟩, -⟩ := hBkxmf.three
  obtain ⟨⟨pchBpmr0_52, pchBpmr1_52, pchBpmr2_52⟩, -⟩ := hBpmr.three
  obtain ⟨⟨pchBpms0_53, pchBpms1_53, pchBpms2_53⟩, -⟩ := hBpms.three
  obtain ⟨⟨pchBpmf0_54, pchBpmf1_54, pchBpmf2_54⟩, -⟩ := hBpmf.three
  go_wp2_with fail
  clear chBkxmr0
  clear chBkxmr1
  clear chBkxmr2
  clear chBkxms0
  clear chBkxms1
  clear chBkxms2
  clear chBkxmf0
  clear chBkxmf1
  clear chBkxmf2
  clear pchBpmr0_52 pchBpmr1_52 pchBpmr2_52
  clear pchBpms0_53 pchBpms1_53 pchBpms2_53
  clear pchBpmf0_54 pchBpmf1_54 pchBpmf2_54
  have hq_mr : cntM mr ≤ bdM mr := by unfold cntM bdM; omega
  have hq_ms : cntM ms ≤ bdM ms := by unfold cntM bdM; omega
  have hq_mf : cntM mf ≤ bdM mf := by unfold cntM bdM; omega
  refine (mark_M (1) hXmr (by omega)).mono ?_
  rintro e w20 ⟨rfl, hXmrm, hK20⟩
  have hs20 := hK20.size
  replace hAmr := hAmr.keep hK20 (fun b _ hb => by (try simp only [New] at hb ⊢); omega)
  replace hAms := hAms.keep hK20 (fun b _ hb => by (try simp only [New] at hb ⊢); omega)
  replace hAmf := hAmf.keep hK20 (fun b _ hb => by (try simp only [New] at hb ⊢); omega)
  replace hW0 := hW0.keep hK20 (fun b _ hb => by (try simp only [New] at hb ⊢); omega)
  replace hXms := hXms.keep hK20 (fun b _ hb => by (try simp only [New] at hb ⊢); omega)
  replace hXmf := hXmf.keep hK20 (fun b _ hb => by (try simp only [New] at hb ⊢); omega)
  replace hVg0 := hVg0.keep hK20 (fun b _ hb => by (try simp only [New] at hb ⊢); omega)
  replace hBkxmr := hBkxmr.keep hK20 (by (try simp only [New]); omega)
  replace hBkxms := hBkxms.keep hK20 (by (try simp only [New]); omega)
  replace hBkxmf := hBkxmf.keep hK20 (by (try simp only [New]); omega)
  replace hBpmr := hBpmr.keep hK20 (by (try simp only [New]); omega)
  replace hBpms := hBpms.keep hK20 (by (try simp only [New]); omega)
  replace hBpmf := hBpmf.keep hK20 (by (try simp only [New]); omega)
  replace hT : Grow w w20 := hT.keep hK20 (fun b hb => by (try simp only [New]); omega)
  clear hK20
  obtain ⟨⟨chBkxmr0, chBkxmr1, chBkxmr2⟩, -⟩ := hBkxmr.three
  obtain ⟨⟨chBkxms0, chBkxms1, chBkxms2⟩, -⟩ := hBkxms.three
  obtain ⟨⟨chBkxmf0, chBkxmf1, chBkxmf2⟩, -⟩ := hBkxmf.three
  obtain ⟨⟨pchBpmr0_55, pchBpmr1_55, pchBpmr2_55⟩, -⟩ := hBpmr.three
  obtain ⟨⟨pchBpms0_56, pchBpms1_56, pchBpms2_56⟩, -⟩ := hBpms.three
  obtain ⟨⟨pchBpmf0_57, pchBpmf1_57, pchBpmf2_57⟩, -⟩ := hBpmf.three
  go_wp2_with fail
  clear chBkxmr0
  clear chBkxmr1
  clear chBkxmr2
  clear chBkxms0
  clear chBkxms1
  clear chBkxms2
  clear chBkxmf0
  clear chBkxmf1
  clear chBkxmf2
  clear pchBpmr0_55 pchBpmr1_55 pchBpmr2_55
  clear pchBpms0_56 pchBpms1_56 pchBpms2_56
  clear pchBpmf0_57 pchBpmf1_57 pchBpmf2_57
  refine (mark_M (1 + cntM mr) hXms (by omega)).mono ?_
  rintro e w21 ⟨rfl, hXmsm, hK21⟩
  have hs21 := hK21.size
  replace hAmr := hAmr.keep hK21 (fun b _ hb => by (try simp only [New] at hb ⊢); omega)
  replace hAms := hAms.keep hK21 (fun b _ hb => by (try simp only [New] at hb ⊢); omega)
  replace hAmf := hAmf.keep hK21 (fun b _ hb => by (try simp only [New] at hb ⊢); omega)
  replace hW0 := hW0.keep hK21 (fun b _ hb => by (try simp only [New] at hb ⊢); omega)
  replace hXmf := hXmf.keep hK21 (fun b _ hb => by (try simp only [New] at hb ⊢); omega)
  replace hVg0 := hVg0.keep hK21 (fun b _ hb => by (try simp only [New] at hb ⊢); omega)
  replace hXmrm := hXmrm.keep hK21 (fun b _ hb => by (try simp only [New] at hb ⊢); omega)
  replace hBkxmr := hBkxmr.keep hK21 (by (try simp only [New]); omega)
  replace hBkxms := hBkxms.keep hK21 (by (try simp only [New]); omega)
  replace hBkxmf := hBkxmf.keep hK21 (by (try simp only [New]); omega)
  replace hBpmr := hBpmr.keep hK21 (by (try simp only [New]); omega)
  replace hBpms := hBpms.keep hK21 (by (try simp only [New]); omega)
  replace hBpmf := hBpmf.keep hK21 (by (try simp only [New]); omega)
  replace hT : Grow w w21 := hT.keep hK21 (fun b hb => by (try simp only [New]); omega)
  clear hK21
  obtain ⟨⟨chBkxmr0, chBkxmr1, chBkxmr2⟩, -⟩ := hBkxmr.three
  obtain ⟨⟨chBkxms0, chBkxms1, chBkxms2⟩, -⟩ := hBkxms.three
  obtain ⟨⟨chBkxmf0, chBkxmf1, chBkxmf2⟩, -⟩ := hBkxmf.three
  obtain ⟨⟨pchBpmr0_58, pchBpmr1_58, pchBpmr2_58⟩, -⟩ := hBpmr.three
  obtain ⟨⟨pchBpms0_59, pchBpms1_59, pchBpms2_59⟩, -⟩ := hBpms.three
  obtain ⟨⟨pchBpmf0_60, pchBpmf1_60, pchBpmf2_60⟩, -⟩ := hBpmf.three
  go_wp2_with fail
  clear chBkxmr0
  clear chBkxmr1
  clear chBkxmr2
  clear chBkxms0
  clear chBkxms1
  clear chBkxms2
  clear chBkxmf0
  clear chBkxmf1
  clear chBkxmf2
  clear pchBpmr0_58 pchBpmr1_58 pchBpmr2_58
  clear pchBpms0_59 pchBpms1_59 pchBpms2_59
  clear pchBpmf0_60 pchBpmf1_60 pchBpmf2_60
  refine (mark_M (1 + cntM mr + cntM ms) hXmf (by omega)).mono ?_
  rintro e w22 ⟨rfl, hXmfm, hK22⟩
  have hs22 := hK22.size
  replace hAmr := hAmr.keep hK22 (fun b _ hb => by (try simp only [New] at hb ⊢); omega)
  replace hAms := hAms.keep hK22 (fun b _ hb => by (try simp only [New] at hb ⊢); omega)
  replace hAmf := hAmf.keep hK22 (fun b _ hb => by (try simp only [New] at hb ⊢); omega)
  replace hW0 := hW0.keep hK22 (fun b _ hb => by (try simp only [New] at hb ⊢); omega)
  replace hVg0 := hVg0.keep hK22 (fun b _ hb => by (try simp only [New] at hb ⊢); omega)
  replace hXmrm := hXmrm.keep hK22 (fun b _ hb => by (try simp only [New] at hb ⊢); omega)
  replace hXmsm := hXmsm.keep hK22 (fun b _ hb => by (try simp only [New] at hb ⊢); omega)
  replace hBkxmr := hBkxmr.keep hK22 (by (try simp only [New]); omega)
  replace hBkxms := hBkxms.keep hK22 (by (try simp only [New]); omega)
  replace hBkxmf := hBkxmf.keep hK22 (by (try simp only [New]); omega)
  replace hBpmr := hBpmr.keep hK22 (by (try simp only [New]); omega)
  replace hBpms := hBpms.keep hK22 (by (try simp only [New]); omega)
  replace hBpmf := hBpmf.keep hK22 (by (try simp only [New]); omega)
  replace hT : Grow w w22 := hT.keep hK22 (fun b hb => by (try simp only [New]); omega)
  clear hK22
  obtain ⟨⟨chBkxmr0, chBkxmr1, chBkxmr2⟩, -⟩ := hBkxmr.three
  obtain ⟨⟨chBkxms0, chBkxms1, chBkxms2⟩, -⟩ := hBkxms.three
  obtain ⟨⟨chBkxmf0, chBkxmf1, chBkxmf2⟩, -⟩ := hBkxmf.three
  obtain ⟨⟨pchBpmr0_61, pchBpmr1_61, pchBpmr2_61⟩, -⟩ := hBpmr.three
  obtain ⟨⟨pchBpms0_62, pchBpms1_62, pchBpms2_62⟩, -⟩ := hBpms.three
  obtain ⟨⟨pchBpmf0_63, pchBpmf1_63, pchBpmf2_63⟩, -⟩ := hBpmf.three
  go_wp2_with fail
  clear chBkxmr0
  clear chBkxmr1
  clear chBkxmr2
  clear chBkxms0
  clear chBkxms1
  clear chBkxms2
  clear chBkxmf0
  clear chBkxmf1
  clear chBkxmf2
  clear pchBpmr0_61 pchBpmr1_61 pchBpmr2_61
  clear pchBpms0_62 pchBpms1_62 pchBpms2_62
  clear pchBpmf0_63 pchBpmf1_63 pchBpmf2_63
  refine (eq_I (hVg0.rd (S := fun _ => True) fun _ _ => trivial) hW0 hB_0).mono ?_
  rintro e w23 ⟨rfl, hG23⟩
  have hs23 := hG23.size
  replace hAmr := hAmr.grow hG23
  replace hAms := hAms.grow hG23
  replace hAmf := hAmf.grow hG23
  replace hW0 := hW0.grow hG23
  replace hVg0 := hVg0.grow hG23
  replace hXmrm := hXmrm.grow hG23
  replace hXmsm := hXmsm.grow hG23
  replace hXmfm := hXmfm.grow hG23
  replace hBkxmr := hBkxmr.grow hG23
  replace hBkxms := hBkxms.grow hG23
  replace hBkxmf := hBkxmf.grow hG23
  replace hBpmr := hBpmr.grow hG23
  replace hBpms := hBpms.grow hG23
  replace hBpmf := hBpmf.grow hG23
  replace hT := hT.trans hG23
  clear hG23
  obtain ⟨⟨chBkxmr0, chBkxmr1, chBkxmr2⟩, -⟩ := hBkxmr.three
  obtain ⟨⟨chBkxms0, chBkxms1, chBkxms2⟩, -⟩ := hBkxms.three
  obtain ⟨⟨chBkxmf0, chBkxmf1, chBkxmf2⟩, -⟩ := hBkxmf.three
  obtain ⟨⟨pchBpmr0_64, pchBpmr1_64, pchBpmr2_64⟩, -⟩ := hBpmr.three
  obtain ⟨⟨pchBpms0_65, pchBpms1_65, pchBpms2_65⟩, -⟩ := hBpms.three
  obtain ⟨⟨pchBpmf0_66, pchBpmf1_66, pchBpmf2_66⟩, -⟩ := hBpmf.three
  go_wp2_with fail
  clear chBkxmr0
  clear chBkxmr1
  clear chBkxmr2
  clear chBkxms0
  clear chBkxms1
  clear chBkxms2
  clear chBkxmf0
  clear chBkxmf1
  clear chBkxmf2
  clear pchBpmr0_64 pchBpmr1_64 pchBpmr2_64
  clear pchBpms0_65 pchBpms1_65 pchBpms2_65
  clear pchBpmf0_66 pchBpmf1_66 pchBpmf2_66
  refine (mark_I (1) hVg0 (by omega)).mono ?_
  rintro e w24 ⟨rfl, hVg0m, hK24⟩
  have hs24 := hK24.size
  replace hAmr := hAmr.keep hK24 (fun b _ hb => by (try simp only [New] at hb ⊢); omega)
  replace hAms := hAms.keep hK24 (fun b _ hb => by (try simp only [New] at hb ⊢); omega)
  replace hAmf := hAmf.keep hK24 (fun b _ hb => by (try simp only [New] at hb ⊢); omega)
  replace hW0 := hW0.keep hK24 (fun b _ hb => by (try simp only [New] at hb ⊢); omega)
  replace hXmrm := hXmrm.keep hK24 (fun b _ hb => by (try simp only [New] at hb ⊢); omega)
  replace hXmsm := hXmsm.keep hK24 (fun b _ hb => by (try simp only [New] at hb ⊢); omega)
  replace hXmfm := hXmfm.keep hK24 (fun b _ hb => by (try simp only [New] at hb ⊢); omega)
  replace hBkxmr := hBkxmr.keep hK24 (by (try simp only [New]); omega)
  replace hBkxms := hBkxms.keep hK24 (by (try simp only [New]); omega)
  replace hBkxmf := hBkxmf.keep hK24 (by (try simp only [New]); omega)
  replace hBpmr := hBpmr.keep hK24 (by (try simp only [New]); omega)
  replace hBpms := hBpms.keep hK24 (by (try simp only [New]); omega)
  replace hBpmf := hBpmf.keep hK24 (by (try simp only [New]); omega)
  replace hT : Grow w w24 := hT.keep hK24 (fun b hb => by (try simp only [New]); omega)
  clear hK24
  obtain ⟨⟨chBkxmr0, chBkxmr1, chBkxmr2⟩, -⟩ := hBkxmr.three
  obtain ⟨⟨chBkxms0, chBkxms1, chBkxms2⟩, -⟩ := hBkxms.three
  obtain ⟨⟨chBkxmf0, chBkxmf1, chBkxmf2⟩, -⟩ := hBkxmf.three
  obtain ⟨⟨pchBpmr0_67, pchBpmr1_67, pchBpmr2_67⟩, -⟩ := hBpmr.three
  obtain ⟨⟨pchBpms0_68, pchBpms1_68, pchBpms2_68⟩, -⟩ := hBpms.three
  obtain ⟨⟨pchBpmf0_69, pchBpmf1_69, pchBpmf2_69⟩, -⟩ := hBpmf.three
  go_wp2_with fail
  clear chBkxmr0
  clear chBkxmr1
  clear chBkxmr2
  clear chBkxms0
  clear chBkxms1
  clear chBkxms2
  clear chBkxmf0
  clear chBkxmf1
  clear chBkxmf2
  clear pchBpmr0_67 pchBpmr1_67 pchBpmr2_67
  clear pchBpms0_68 pchBpms1_68 pchBpms2_68
  clear pchBpmf0_69 pchBpmf1_69 pchBpmf2_69
  refine (held_I (1) (hVg0m.rd (S := fun _ => True) fun _ _ => trivial) (by omega)).mono ?_
  rintro e w25 ⟨rfl, hG25⟩
  have hs25 := hG25.size
  replace hAmr := hAmr.grow hG25
  replace hAms := hAms.grow hG25
  replace hAmf := hAmf.grow hG25
  replace hW0 := hW0.grow hG25
  replace hXmrm := hXmrm.grow hG25
  replace hXmsm := hXmsm.grow hG25
  replace hXmfm := hXmfm.grow hG25
  replace hVg0m := hVg0m.grow hG25
  replace hBkxmr := hBkxmr.grow hG25
  replace hBkxms := hBkxms.grow hG25
  replace hBkxmf := hBkxmf.grow hG25
  replace hBpmr := hBpmr.grow hG25
  replace hBpms := hBpms.grow hG25
  replace hBpmf := hBpmf.grow hG25
  replace hT := hT.trans hG25
  clear hG25
  obtain ⟨⟨chBkxmr0, chBkxmr1, chBkxmr2⟩, -⟩ := hBkxmr.three
  obtain ⟨⟨chBkxms0, chBkxms1, chBkxms2⟩, -⟩ := hBkxms.three
  obtain ⟨⟨chBkxmf0, chBkxmf1, chBkxmf2⟩, -⟩ := hBkxmf.three
  obtain ⟨⟨pchBpmr0_70, pchBpmr1_70, pchBpmr2_70⟩, -⟩ := hBpmr.three
  obtain ⟨⟨pchBpms0_71, pchBpms1_71, pchBpms2_71⟩, -⟩ := hBpms.three
  obtain ⟨⟨pchBpmf0_72, pchBpmf1_72, pchBpmf2_72⟩, -⟩ := hBpmf.three
  go_wp2_with fail
  clear chBkxmr0
  clear chBkxmr1
  clear chBkxmr2
  clear chBkxms0
  clear chBkxms1
  clear chBkxms2
  clear chBkxmf0
  clear chBkxmf1
  clear chBkxmf2
  clear pchBpmr0_70 pchBpmr1_70 pchBpmr2_70
  clear pchBpms0_71 pchBpms1_71 pchBpms2_71
  clear pchBpmf0_72 pchBpmf1_72 pchBpmf2_72
  refine wp_region_segs (S := Grow w25) [([0, 2, 4], some 1), ([], some 3), ([], some 5), ([], some 6), ([7, 8, 9, 10, 11, 12, 13], none)] P_mixed (by kernel_rfl) (fun _ _ _ _ _ h => h) (Grow.refl _).drew ?_
  show wpQuiet _ _ _ _ [_, _, _] _
  repeat (first | go_big_quiet_skip | (go_big_quiet_want; first | (apply quiet_load3 T_lmat; rfl; rfl; exact (fun w' hG => hBpmr.grow hG); go_big_quiet_on; simp only [Act.put, List.setIfInBounds_toArray, List.set_cons_succ, List.set_cons_zero]) | (apply quiet_load3 T_lmat; rfl; rfl; exact (fun w' hG => hBpms.grow hG); go_big_quiet_on; simp only [Act.put, List.setIfInBounds_toArray, List.set_cons_succ, List.set_cons_zero]) | (apply quiet_load3 T_lmat; rfl; rfl; exact (fun w' hG => hBpmf.grow hG); go_big_quiet_on; simp only [Act.put, List.setIfInBounds_toArray, List.set_cons_succ, List.set_cons_zero]) | (go_big_quiet_op; first | go_big_quiet_on | (refine ⟨_, (fun _ _ => rfl), ?_⟩; go_big_quiet_on))))
  refine wpQuiet_nil ?_
  generalize hwd : w25.drew = w26
  have hQ : Grow w25 w26 := by rw [← hwd]; exact (Grow.refl _).drew
  clear hwd
  have hs26 := hQ.size
  replace hAmr := hAmr.grow hQ
  replace hAms := hAms.grow hQ
  replace hAmf := hAmf.grow hQ
  replace hW0 := hW0.grow hQ
  replace hXmrm := hXmrm.grow hQ
  replace hXmsm := hXmsm.grow hQ
  replace hXmfm := hXmfm.grow hQ
  replace hVg0m := hVg0m.grow hQ
  replace hBkxmr := hBkxmr.grow hQ
  replace hBkxms := hBkxms.grow hQ
  replace hBkxmf := hBkxmf.grow hQ
  replace hBpmr := hBpmr.grow hQ
  replace hBpms := hBpms.grow hQ
  replace hBpmf := hBpmf.grow hQ
  replace hT := hT.trans hQ
  refine seg_go rfl (fun K hK => ?_)
  go_wp2_with fail
  refine (to_M hAmr hBmr).mono ?_
  rintro e w27 ⟨tmr, rfl, hCmr, hG27⟩
  have hs27 := hG27.size
  replace hAmr := hAmr.grow hG27
  replace hAms := hAms.grow hG27
  replace hAmf := hAmf.grow hG27
  replace hW0 := hW0.grow hG27
  replace hXmrm := hXmrm.grow hG27
  replace hXmsm := hXmsm.grow hG27
  replace hXmfm := hXmfm.grow hG27
  replace hVg0m := hVg0m.grow hG27
  replace hBkxmr := hBkxmr.grow hG27
  replace hBkxms := hBkxms.grow hG27
  replace hBkxmf := hBkxmf.grow hG27
  replace hBpmr := hBpmr.grow hG27
  replace hBpms := hBpms.grow hG27
  replace hBpmf := hBpmf.grow hG27
  replace hT := hT.trans hG27
  replace hQ := hQ.trans hG27
  clear hG27
  obtain ⟨tmra, tmrn, tmrc, rfl, hCmrx⟩ := hCmr
  replace hCmr : OM w27 (New w26 w27) (.agg #[.int .i64 (mr).rows, .int .i64 (mr).cols, .slice tmra tmrn tmrc]) mr := ⟨_, _, _, rfl, hCmrx⟩
  clear hCmrx
  go_wp2_with fail
  refine hK _ _ (hQ) ?_
  clear hK K
  show wpQuiet _ _ _ _ [] _
  try (conv => arg 6; simp only [Act.put, List.setIfInBounds_toArray, List.set_cons_succ, List.set_cons_zero])
  refine wpQuiet_nil ?_
  refine seg_go rfl (fun K hK => ?_)
  go_wp2_with fail
  refine (to_M hAms hBms).mono ?_
  rintro e w28 ⟨tms, rfl, hCms, hG28⟩
  have hs28 := hG28.size
  replace hAmr := hAmr.grow hG28
  replace hAms := hAms.grow hG28
  replace hAmf := hAmf.grow hG28
  replace hW0 := hW0.grow hG28
  replace hXmrm := hXmrm.grow hG28
  replace hXmsm := hXmsm.grow hG28
  replace hXmfm := hXmfm.grow hG28
  replace hVg0m := hVg0m.grow hG28
  replace hCmr := hCmr.grow hG28
  replace hBkxmr := hBkxmr.grow hG28
  replace hBkxms := hBkxms.grow hG28
  replace hBkxmf := hBkxmf.grow hG28
  replace hBpmr := hBpmr.grow hG28
  replace hBpms := hBpms.grow hG28
  replace hBpmf := hBpmf.grow hG28
  replace hT := hT.trans hG28
  replace hQ := hQ.trans hG28
  clear hG28
  obtain ⟨tmsa, tmsn, tmsc, rfl, hCmsx⟩ := hCms
  replace hCms : OM w28 (New w27 w28) (.agg #[.int .i64 (ms).rows, .int .i64 (ms).cols, .slice tmsa tmsn tmsc]) ms := ⟨_, _, _, rfl, hCmsx⟩
  clear hCmsx
  go_wp2_with fail
  refine hK _ _ (hQ) ?_
  clear hK K
  show wpQuiet _ _ _ _ [] _
  try (conv => arg 6; simp only [Act.put, List.setIfInBounds_toArray, List.set_cons_succ, List.set_cons_zero])
  refine wpQuiet_nil ?_
  refine seg_go rfl (fun K hK => ?_)
  go_wp2_with fail
  refine (to_M hAmf hBmf).mono ?_
  rintro e w29 ⟨tmf, rfl, hCmf, hG29⟩
  have hs29 := hG29.size
  replace hAmr := hAmr.grow hG29
  replace hAms := hAms.grow hG29
  replace hAmf := hAmf.grow hG29
  replace hW0 := hW0.grow hG29
  replace hXmrm := hXmrm.grow hG29
  replace hXmsm := hXmsm.grow hG29
  replace hXmfm := hXmfm.grow hG29
  replace hVg0m := hVg0m.grow hG29
  replace hCmr := hCmr.grow hG29
  replace hCms := hCms.grow hG29
  replace hBkxmr := hBkxmr.grow hG29
  replace hBkxms := hBkxms.grow hG29
  replace hBkxmf := hBkxmf.grow hG29
  replace hBpmr := hBpmr.grow hG29
  replace hBpms := hBpms.grow hG29
  replace hBpmf := hBpmf.grow hG29
  replace hT := hT.trans hG29
  replace hQ := hQ.trans hG29
  clear hG29
  obtain ⟨tmfa, tmfn, tmfc, rfl, hCmfx⟩ := hCmf
  replace hCmf : OM w29 (New w28 w29) (.agg #[.int .i64 (mf).rows, .int .i64 (mf).cols, .slice tmfa tmfn tmfc]) mf := ⟨_, _, _, rfl, hCmfx⟩
  clear hCmfx
  go_wp2_with fail
  refine hK _ _ (hQ) ?_
  clear hK K
  show wpQuiet _ _ _ _ [] _
  try (conv => arg 6; simp only [Act.put, List.setIfInBounds_toArray, List.set_cons_succ, List.set_cons_zero])
  refine wpQuiet_nil ?_
  refine seg_go rfl (fun K hK => ?_)
  go_wp2_with fail
  refine (impl_V (hCmr.rd (S := fun _ => True) fun _ _ => trivial) hBmr (hCms.rd (S := fun _ => True) fun _ _ => trivial) hBms (hCmf.rd (S := fun _ => True) fun _ _ => trivial) hBmf).mono ?_
  rintro e w30 ⟨h0, rfl, hVh0, hG30⟩
  clear hCmr
  clear hCms
  clear hCmf
  have hs30 := hG30.size
  replace hAmr := hAmr.grow hG30
  replace hAms := hAms.grow hG30
  replace hAmf := hAmf.grow hG30
  replace hW0 := hW0.grow hG30
  replace hXmrm := hXmrm.grow hG30
  replace hXmsm := hXmsm.grow hG30
  replace hXmfm := hXmfm.grow hG30
  replace hVg0m := hVg0m.grow hG30
  replace hBkxmr := hBkxmr.grow hG30
  replace hBkxms := hBkxms.grow hG30
  replace hBkxmf := hBkxmf.grow hG30
  replace hBpmr := hBpmr.grow hG30
  replace hBpms := hBpms.grow hG30
  replace hBpmf := hBpmf.grow hG30
  replace hT := hT.trans hG30
  replace hQ := hQ.trans hG30
  clear hG30
  go_wp2_with fail
  refine hK _ _ (hQ) ?_
  clear hK K
  show wpQuiet _ _ _ _ [_, _, _, _, _, _, _] _
  try (conv => arg 6; simp only [Act.put, List.setIfInBounds_toArray, List.set_cons_succ, List.set_cons_zero])
  repeat (first | go_big_quiet_skip | (go_big_quiet_want; first | (apply quiet_load3 T_lmat; rfl; rfl; exact (fun w' hG => hBpmr.grow hG); go_big_quiet_on; simp only [Act.put, List.setIfInBounds_toArray, List.set_cons_succ, List.set_cons_zero]) | (apply quiet_load3 T_lmat; rfl; rfl; exact (fun w' hG => hBpms.grow hG); go_big_quiet_on; simp only [Act.put, List.setIfInBounds_toArray, List.set_cons_succ, List.set_cons_zero]) | (apply quiet_load3 T_lmat; rfl; rfl; exact (fun w' hG => hBpmf.grow hG); go_big_quiet_on; simp only [Act.put, List.setIfInBounds_toArray, List.set_cons_succ, List.set_cons_zero]) | (go_big_quiet_op; first | go_big_quiet_on | (refine ⟨_, (fun _ _ => rfl), ?_⟩; go_big_quiet_on))))
  refine wpQuiet_nil ?_
  clear hQ
  refine wpSegs_nil ?_
  obtain ⟨⟨chBkxmr0, chBkxmr1, chBkxmr2⟩, -⟩ := hBkxmr.three
  obtain ⟨⟨chBkxms0, chBkxms1, chBkxms2⟩, -⟩ := hBkxms.three
  obtain ⟨⟨chBkxmf0, chBkxmf1, chBkxmf2⟩, -⟩ := hBkxmf.three
  obtain ⟨⟨pchBpmr0_73, pchBpmr1_73, pchBpmr2_73⟩, -⟩ := hBpmr.three
  obtain ⟨⟨pchBpms0_74, pchBpms1_74, pchBpms2_74⟩, -⟩ := hBpms.three
  obtain ⟨⟨pchBpmf0_75, pchBpmf1_75, pchBpmf2_75⟩, -⟩ := hBpmf.three
  go_wp2_with fail
  clear chBkxmr0
  clear chBkxmr1
  clear chBkxmr2
  clear chBkxms0
  clear chBkxms1
  clear chBkxms2
  clear chBkxmf0
  clear chBkxmf1
  clear chBkxmf2
  clear pchBpmr0_73 pchBpmr1_73 pchBpmr2_73
  clear pchBpms0_74 pchBpms1_74 pchBpms2_74
  clear pchBpmf0_75 pchBpmf1_75 pchBpmf2_75
  refine (eq_I (hVh0.rd (S := fun _ => True) fun _ _ => trivial) hW0 hB_0).mono ?_
  rintro e w31 ⟨rfl, hG31⟩
  have hs31 := hG31.size
  replace hAmr := hAmr.grow hG31
  replace hAms := hAms.grow hG31
  replace hAmf := hAmf.grow hG31
  replace hW0 := hW0.grow hG31
  replace hXmrm := hXmrm.grow hG31
  replace hXmsm := hXmsm.grow hG31
  replace hXmfm := hXmfm.grow hG31
  replace hVg0m := hVg0m.grow hG31
  replace hVh0 := hVh0.grow hG31
  replace hBkxmr := hBkxmr.grow hG31
  replace hBkxms := hBkxms.grow hG31
  replace hBkxmf := hBkxmf.grow hG31
  replace hBpmr := hBpmr.grow hG31
  replace hBpms := hBpms.grow hG31
  replace hBpmf := hBpmf.grow hG31
  replace hT := hT.trans hG31
  clear hG31
  obtain ⟨⟨chBkxmr0, chBkxmr1, chBkxmr2⟩, -⟩ := hBkxmr.three
  obtain ⟨⟨chBkxms0, chBkxms1, chBkxms2⟩, -⟩ := hBkxms.three
  obtain ⟨⟨chBkxmf0, chBkxmf1, chBkxmf2⟩, -⟩ := hBkxmf.three
  obtain ⟨⟨pchBpmr0_76, pchBpmr1_76, pchBpmr2_76⟩, -⟩ := hBpmr.three
  obtain ⟨⟨pchBpms0_77, pchBpms1_77, pchBpms2_77⟩, -⟩ := hBpms.three
  obtain ⟨⟨pchBpmf0_78, pchBpmf1_78, pchBpmf2_78⟩, -⟩ := hBpmf.three
  go_wp2_with fail
  clear chBkxmr0
  clear chBkxmr1
  clear chBkxmr2
  clear chBkxms0
  clear chBkxms1
  clear chBkxms2
  clear chBkxmf0
  clear chBkxmf1
  clear chBkxmf2
  clear pchBpmr0_76 pchBpmr1_76 pchBpmr2_76
  clear pchBpms0_77 pchBpms1_77 pchBpms2_77
  clear pchBpmf0_78 pchBpmf1_78 pchBpmf2_78
  refine (held_I (1) (hVg0m.rd (S := fun _ => True) fun _ _ => trivial) (by omega)).mono ?_
  rintro e w32 ⟨rfl, hG32⟩
  have hs32 := hG32.size
  replace hAmr := hAmr.grow hG32
  replace hAms := hAms.grow hG32
  replace hAmf := hAmf.grow hG32
  replace hW0 := hW0.grow hG32
  replace hXmrm := hXmrm.grow hG32
  replace hXmsm := hXmsm.grow hG32
  replace hXmfm := hXmfm.grow hG32
  replace hVg0m := hVg0m.grow hG32
  replace hVh0 := hVh0.grow hG32
  replace hBkxmr := hBkxmr.grow hG32
  replace hBkxms := hBkxms.grow hG32
  replace hBkxmf := hBkxmf.grow hG32
  replace hBpmr := hBpmr.grow hG32
  replace hBpms := hBpms.grow hG32
  replace hBpmf := hBpmf.grow hG32
  replace hT := hT.trans hG32
  clear hG32
  obtain ⟨⟨chBkxmr0, chBkxmr1, chBkxmr2⟩, -⟩ := hBkxmr.three
  obtain ⟨⟨chBkxms0, chBkxms1, chBkxms2⟩, -⟩ := hBkxms.three
  obtain ⟨⟨chBkxmf0, chBkxmf1, chBkxmf2⟩, -⟩ := hBkxmf.three
  obtain ⟨⟨pchBpmr0_79, pchBpmr1_79, pchBpmr2_79⟩, -⟩ := hBpmr.three
  obtain ⟨⟨pchBpms0_80, pchBpms1_80, pchBpms2_80⟩, -⟩ := hBpms.three
  obtain ⟨⟨pchBpmf0_81, pchBpmf1_81, pchBpmf2_81⟩, -⟩ := hBpmf.three
  go_wp2_with fail
  clear chBkxmr0
  clear chBkxmr1
  clear chBkxmr2
  clear chBkxms0
  clear chBkxms1
  clear chBkxms2
  clear chBkxmf0
  clear chBkxmf1
  clear chBkxmf2
  clear pchBpmr0_79 pchBpmr1_79 pchBpmr2_79
  clear pchBpms0_80 pchBpms1_80 pchBpms2_80
  clear pchBpmf0_81 pchBpmf1_81 pchBpmf2_81
  go_ret
  exact ⟨rfl, hT⟩
set_option maxRecDepth 100000 in
theorem lifted (os : Os) (started : os.Started) (H : Type) (enc : TypeId × Value → H) :
    ReturnsInHanded {} Tryz.checked os 4 .any (Rows.fnExactKernelInSpec.pre6 enc Tryz.prog Tryz.f4 Rows.fnExactKernelInRow.domain false) (Rows.fnExactKernelInSpec.post enc Tryz.prog Tryz.f4 false true false false) := by
  refine law_close (C := Tryz.checked) (tb := 4) P_own started (by kernel_rfl) Tryz.func4
    (ChangeSpec.witness6 (enc := enc) (C := Tryz.checked) false ⟨#[], #[.agg #[.int .i64 0, .int .i64 0, .slice none 0 0], .agg #[.int .i64 0, .int .i64 0, .slice none 0 0], .agg #[.int .i64 0, .int .i64 0, .slice none 0 0]], []⟩ 8 (by kernel_rfl) (by kernel_rfl) (by kernel_rfl) (by kernel_rfl))
    P_laid ?_ rfl Tryz.underlying4 rfl ?_ ?_
  · exact of_decide_eq_true (by kernel_rfl)
  · intro ds hds
    match ds, hds with
    | [d0, d1, d2], _ => rfl
  · intro W args ds ps hval0 hA0
    have hval : ∀ (j : Nat) t v, Tryz.f4.params[j]? = some t → args[j]? = some v → Value.okWide Tryz.prog W .any 0 t v := hval0
    have hA : DataW.TrodAll enc Tryz.prog W 0 (fun _ => true) true Tryz.f4.params.toList args.toList ds ps := hA0
    rw [Tryz.params4] at hA hval
    obtain ⟨v0, vs0, d0, ds0, p0, q0, hargs, rfl, rfl, h0, r0⟩ := trodAll_cons hA
    obtain ⟨v1, vs1, d1, ds1, p1, q1, rfl, rfl, rfl, h1, r1⟩ := trodAll_cons r0
    obtain ⟨v2, vs2, d2, ds2, p2, q2, rfl, rfl, rfl, h2, r2⟩ := trodAll_cons r1
    obtain ⟨rfl, rfl, rfl⟩ := trodAll_nil r2
    obtain rfl : args = #[v0, v1, v2] := by cases args; simp_all
    obtain ⟨x0, hx0⟩ := openMx (hval 0 24 v0 rfl rfl) h0
    obtain ⟨x1, hx1⟩ := openMx (hval 1 24 v1 rfl rfl) h1
    obtain ⟨x2, hx2⟩ := openMx (hval 2 24 v2 rfl rfl) h2
    exact walk _ x0 _ x1 _ x2 W hx0 hx1 hx2

theorem proved : Rows.FnExactKernelInSaid :=
  OpenClaim.holds_of_wide 4 Tryz.f4 rfl rfl rfl rfl rfl rfl rfl ⟨rfl, rfl, rfl, rfl, rfl⟩ rfl rfl rfl rfl rfl (by kernel_rfl) Tryz.func4 (by kernel_rfl)
    (of_decide_eq_true (by kernel_rfl)) (by unfold Func.isWrapper; first | (rw [if_pos (by decide +kernel)]; kernel_rfl) | (rw [if_neg (by decide +kernel)]; exact ⟨rfl, rfl⟩))
    (fun os started H enc _ => lifted os started H enc)
end Go.Proofs.YtodemejfbekjgaaGreat.lawKernelIn
