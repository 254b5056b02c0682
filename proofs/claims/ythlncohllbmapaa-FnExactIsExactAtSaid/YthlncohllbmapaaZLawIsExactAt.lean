/-
  The law FnExactIsExactAt returns true for all arguments: the program's IsExactAt and the reference's return the same; arguments stay. No condition.
-/
import Derived.Test.YthlncohllbmapaaZStack
import Derived.Test.YthlncohllbmapaaZBase
import Derived.Test.YthlncohllbmapaaZInts
namespace Go.Proofs.Ythlncohllbmapaa.lawIsExactAt
open Go.ChangeShapes Go.WideShapes Go.ChangeAt Go.RowKit

set_option maxHeartbeats 16000000 in
set_option maxRecDepth 100000 in
theorem walk (mrv : Value) (mr : Mat) (msv : Value) (ms : Mat) (mtv : Value) (mt : Mat) (mfv : Value) (mf : Mat) (mgv : Value) (mg : Mat) (w : World) (hmr0 : VM w (fun _ => True) mrv mr) (hms0 : VM w (fun _ => True) msv ms) (hmt0 : VM w (fun _ => True) mtv mt) (hmf0 : VM w (fun _ => True) mfv mf) (hmg0 : VM w (fun _ => True) mgv mg) :
    Calls Try.prog 6 #[mrv, msv, mtv, mfv, mgv] w fun e w' => e = .returned (.bool true) ∧ Grow w w' := by
  have hs0 : w.heap.size ≤ w.heap.size := Nat.le_refl _
  have hAmr : VM w (fun b => b < w.heap.size) mrv mr := hmr0.weak fun _ hb _ => hb
  have hAms : VM w (fun b => b < w.heap.size) msv ms := hms0.weak fun _ hb _ => hb
  have hAmt : VM w (fun b => b < w.heap.size) mtv mt := hmt0.weak fun _ hb _ => hb
  have hAmf : VM w (fun b => b < w.heap.size) mfv mf := hmf0.weak fun _ hb _ => hb
  have hAmg : VM w (fun b => b < w.heap.size) mgv mg := hmg0.weak fun _ hb _ => hb
  clear hmr0
  clear hms0
  clear hmt0
  clear hmf0
  clear hmg0
  have hq0mr := hAmr; obtain ⟨mra, mrn, mrc, rfl, -⟩ := hq0mr
  have hq0ms := hAms; obtain ⟨msa, msn, msc, rfl, -⟩ := hq0ms
  have hq0mt := hAmt; obtain ⟨mta, mtn, mtc, rfl, -⟩ := hq0mt
  have hq0mf := hAmf; obtain ⟨mfa, mfn, mfc, rfl, -⟩ := hq0mf
  have hq0mg := hAmg; obtain ⟨mga, mgn, mgc, rfl, -⟩ := hq0mg
  obtain ⟨wB, hwB⟩ : ∃ wB, wB = (((((w.alloc (.cells #[.int .i64 mr.rows, .int .i64 mr.cols, .slice mra mrn mrc] 24)).alloc (.cells #[.int .i64 ms.rows, .int .i64 ms.cols, .slice msa msn msc] 24)).alloc (.cells #[.int .i64 mt.rows, .int .i64 mt.cols, .slice mta mtn mtc] 24)).alloc (.cells #[.int .i64 mf.rows, .int .i64 mf.cols, .slice mfa mfn mfc] 24)).alloc (.cells #[.int .i64 mg.rows, .int .i64 mg.cols, .slice mga mgn mgc] 24)) := ⟨_, rfl⟩
  have hT : Grow w wB := by rw [hwB]; exact ((((((Grow.refl w).alloc _ _).alloc _ _).alloc _ _).alloc _ _).alloc _ _)
  have hBpmr := (((((Blk.newAt w #[.int .i64 mr.rows, .int .i64 mr.cols, .slice mra mrn mrc] 24 (g := w.heap.size) (by simp)).alloc (.cells #[.int .i64 ms.rows, .int .i64 ms.cols, .slice msa msn msc] 24)).alloc (.cells #[.int .i64 mt.rows, .int .i64 mt.cols, .slice mta mtn mtc] 24)).alloc (.cells #[.int .i64 mf.rows, .int .i64 mf.cols, .slice mfa mfn mfc] 24)).alloc (.cells #[.int .i64 mg.rows, .int .i64 mg.cols, .slice mga mgn mgc] 24))
  have hBpms := ((((Blk.newAt (w.alloc (.cells #[.int .i64 mr.rows, .int .i64 mr.cols, .slice mra mrn mrc] 24)) #[.int .i64 ms.rows, .int .i64 ms.cols, .slice msa msn msc] 24 (g := w.heap.size + 1) (by simp)).alloc (.cells #[.int .i64 mt.rows, .int .i64 mt.cols, .slice mta mtn mtc] 24)).alloc (.cells #[.int .i64 mf.rows, .int .i64 mf.cols, .slice mfa mfn mfc] 24)).alloc (.cells #[.int .i64 mg.rows, .int .i64 mg.cols, .slice mga mgn mgc] 24))
  have hBpmt := (((Blk.newAt ((w.alloc (.cells #[.int .i64 mr.rows, .int .i64 mr.cols, .slice mra mrn mrc] 24)).alloc (.cells #[.int .i64 ms.rows, .int .i64 ms.cols, .slice msa msn msc] 24)) #[.int .i64 mt.rows, .int .i64 mt.cols, .slice mta mtn mtc] 24 (g := w.heap.size + 1 + 1) (by simp)).alloc (.cells #[.int .i64 mf.rows, .int .i64 mf.cols, .slice mfa mfn mfc] 24)).alloc (.cells #[.int .i64 mg.rows, .int .i64 mg.cols, .slice mga mgn mgc] 24))
  have hBpmf := ((Blk.newAt (((w.alloc (.cells #[.int .i64 mr.rows, .int .i64 mr.cols, .slice mra mrn mrc] 24)).alloc (.cells #[.int .i64 ms.rows, .int .i64 ms.cols, .slice msa msn msc] 24)).alloc (.cells #[.int .i64 mt.rows, .int .i64 mt.cols, .slice mta mtn mtc] 24)) #[.int .i64 mf.rows, .int .i64 mf.cols, .slice mfa mfn mfc] 24 (g := w.heap.size + 1 + 1 + 1) (by simp)).alloc (.cells #[.int .i64 mg.rows, .int .i64 mg.cols, .slice mga mgn mgc] 24))
  have hBpmg := Blk.newAt ((((w.alloc (.cells #[.int .i64 mr.rows, .int .i64 mr.cols, .slice mra mrn mrc] 24)).alloc (.cells #[.int .i64 ms.rows, .int .i64 ms.cols, .slice msa msn msc] 24)).alloc (.cells #[.int .i64 mt.rows, .int .i64 mt.cols, .slice mta mtn mtc] 24)).alloc (.cells #[.int .i64 mf.rows, .int .i64 mf.cols, .slice mfa mfn mfc] 24)) #[.int .i64 mg.rows, .int .i64 mg.cols, .slice mga mgn mgc] 24 (g := w.heap.size + 1 + 1 + 1 + 1) (by simp)
  rw [← hwB] at hBpmr
  rw [← hwB] at hBpms
  rw [← hwB] at hBpmt
  rw [← hwB] at hBpmf
  rw [← hwB] at hBpmg
  have HwB := Lib.hid hwB; clear hwB
  have hsB := hT.size
  have hlthBpmr := hBpmr.lt
  have hlthBpms := hBpms.lt
  have hlthBpmt := hBpmt.lt
  have hlthBpmf := hBpmf.lt
  have hlthBpmg := hBpmg.lt
  replace hAmr := hAmr.grow hT
  replace hAms := hAms.grow hT
  replace hAmt := hAmt.grow hT
  replace hAmf := hAmf.grow hT
  replace hAmg := hAmg.grow hT
  by_cases hbmr : szM 1048576 mr < 0
  · skip
    go_enter Try.func6, Try.ntmps6
    go_wp2_with fail
    rw [← HwB.out]
    refine (sz_M hAmr (by omega) (by omega)).mono ?_; rintro e wz0 ⟨rfl, hGz0⟩; have hsz0 := hGz0.size; replace hT := hT.trans hGz0; replace hAmr := hAmr.grow hGz0; replace hAms := hAms.grow hGz0; replace hAmt := hAmt.grow hGz0; replace hAmf := hAmf.grow hGz0; replace hAmg := hAmg.grow hGz0; replace hBpmr := hBpmr.grow hGz0; replace hBpms := hBpms.grow hGz0; replace hBpmt := hBpmt.grow hGz0; replace hBpmf := hBpmf.grow hGz0; replace hBpmg := hBpmg.grow hGz0; clear hGz0
    obtain ⟨⟨pchBpmr0_1, pchBpmr1_1, pchBpmr2_1⟩, -⟩ := hBpmr.three
    obtain ⟨⟨pchBpms0_2, pchBpms1_2, pchBpms2_2⟩, -⟩ := hBpms.three
    obtain ⟨⟨pchBpmt0_3, pchBpmt1_3, pchBpmt2_3⟩, -⟩ := hBpmt.three
    obtain ⟨⟨pchBpmf0_4, pchBpmf1_4, pchBpmf2_4⟩, -⟩ := hBpmf.three
    obtain ⟨⟨pchBpmg0_5, pchBpmg1_5, pchBpmg2_5⟩, -⟩ := hBpmg.three
    go_wp2_with fail
    clear pchBpmr0_1 pchBpmr1_1 pchBpmr2_1
    clear pchBpms0_2 pchBpms1_2 pchBpms2_2
    clear pchBpmt0_3 pchBpmt1_3 pchBpmt2_3
    clear pchBpmf0_4 pchBpmf1_4 pchBpmf2_4
    clear pchBpmg0_5 pchBpmg1_5 pchBpmg2_5
    all_goals (go_ret; exact ⟨rfl, hT⟩)
  have hzmr := sz_M_ok (l := mr) (left := 1048576) (by omega)
  have hBmr : bdM mr ≤ 1048576 := by omega
  by_cases hbms : szM (1048576 - (bdM mr : Int)) ms < 0
  · skip
    go_enter Try.func6, Try.ntmps6
    go_wp2_with fail
    rw [← HwB.out]
    refine (sz_M hAmr (by omega) (by omega)).mono ?_; rintro e wz0 ⟨rfl, hGz0⟩; have hsz0 := hGz0.size; replace hT := hT.trans hGz0; replace hAmr := hAmr.grow hGz0; replace hAms := hAms.grow hGz0; replace hAmt := hAmt.grow hGz0; replace hAmf := hAmf.grow hGz0; replace hAmg := hAmg.grow hGz0; replace hBpmr := hBpmr.grow hGz0; replace hBpms := hBpms.grow hGz0; replace hBpmt := hBpmt.grow hGz0; replace hBpmf := hBpmf.grow hGz0; replace hBpmg := hBpmg.grow hGz0; clear hGz0
    obtain ⟨⟨pchBpmr0_6, pchBpmr1_6, pchBpmr2_6⟩, -⟩ := hBpmr.three
    obtain ⟨⟨pchBpms0_7, pchBpms1_7, pchBpms2_7⟩, -⟩ := hBpms.three
    obtain ⟨⟨pchBpmt0_8, pchBpmt1_8, pchBpmt2_8⟩, -⟩ := hBpmt.three
    obtain ⟨⟨pchBpmf0_9, pchBpmf1_9, pchBpmf2_9⟩, -⟩ := hBpmf.three
    obtain ⟨⟨pchBpmg0_10, pchBpmg1_10, pchBpmg2_10⟩, -⟩ := hBpmg.three
    go_wp2_with fail
    clear pchBpmr0_6 pchBpmr1_6 pchBpmr2_6
    clear pchBpms0_7 pchBpms1_7 pchBpms2_7
    clear pchBpmt0_8 pchBpmt1_8 pchBpmt2_8
    clear pchBpmf0_9 pchBpmf1_9 pchBpmf2_9
    clear pchBpmg0_10 pchBpmg1_10 pchBpmg2_10
    refine (sz_M hAms (by omega) (by omega)).mono ?_; rintro e wz1 ⟨rfl, hGz1⟩; have hsz1 := hGz1.size; replace hT := hT.trans hGz1; replace hAmr := hAmr.grow hGz1; replace hAms := hAms.grow hGz1; replace hAmt := hAmt.grow hGz1; replace hAmf := hAmf.grow hGz1; replace hAmg := hAmg.grow hGz1; replace hBpmr := hBpmr.grow hGz1; replace hBpms := hBpms.grow hGz1; replace hBpmt := hBpmt.grow hGz1; replace hBpmf := hBpmf.grow hGz1; replace hBpmg := hBpmg.grow hGz1; clear hGz1
    obtain ⟨⟨pchBpmr0_11, pchBpmr1_11, pchBpmr2_11⟩, -⟩ := hBpmr.three
    obtain ⟨⟨pchBpms0_12, pchBpms1_12, pchBpms2_12⟩, -⟩ := hBpms.three
    obtain ⟨⟨pchBpmt0_13, pchBpmt1_13, pchBpmt2_13⟩, -⟩ := hBpmt.three
    obtain ⟨⟨pchBpmf0_14, pchBpmf1_14, pchBpmf2_14⟩, -⟩ := hBpmf.three
    obtain ⟨⟨pchBpmg0_15, pchBpmg1_15, pchBpmg2_15⟩, -⟩ := hBpmg.three
    go_wp2_with fail
    clear pchBpmr0_11 pchBpmr1_11 pchBpmr2_11
    clear pchBpms0_12 pchBpms1_12 pchBpms2_12
    clear pchBpmt0_13 pchBpmt1_13 pchBpmt2_13
    clear pchBpmf0_14 pchBpmf1_14 pchBpmf2_14
    clear pchBpmg0_15 pchBpmg1_15 pchBpmg2_15
    all_goals (go_ret; exact ⟨rfl, hT⟩)
  have hzms := sz_M_ok (l := ms) (left := (1048576 - (bdM mr : Int))) (by omega)
  have hBms : bdM ms ≤ 1048576 := by omega
  by_cases hbmt : szM ((1048576 - (bdM mr : Int)) - (bdM ms : Int)) mt < 0
  · skip
    go_enter Try.func6, Try.ntmps6
    go_wp2_with fail
    rw [← HwB.out]
    refine (sz_M hAmr (by omega) (by omega)).mono ?_; rintro e wz0 ⟨rfl, hGz0⟩; have hsz0 := hGz0.size; replace hT := hT.trans hGz0; replace hAmr := hAmr.grow hGz0; replace hAms := hAms.grow hGz0; replace hAmt := hAmt.grow hGz0; replace hAmf := hAmf.grow hGz0; replace hAmg := hAmg.grow hGz0; replace hBpmr := hBpmr.grow hGz0; replace hBpms := hBpms.grow hGz0; replace hBpmt := hBpmt.grow hGz0; replace hBpmf := hBpmf.grow hGz0; replace hBpmg := hBpmg.grow hGz0; clear hGz0
    obtain ⟨⟨pchBpmr0_16, pchBpmr1_16, pchBpmr2_16⟩, -⟩ := hBpmr.three
    obtain ⟨⟨pchBpms0_17, pchBpms1_17, pchBpms2_17⟩, -⟩ := hBpms.three
    obtain ⟨⟨pchBpmt0_18, pchBpmt1_18, pchBpmt2_18⟩, -⟩ := hBpmt.three
    obtain ⟨⟨pchBpmf0_19, pchBpmf1_19, pchBpmf2_19⟩, -⟩ := hBpmf.three
    obtain ⟨⟨pchBpmg0_20, pchBpmg1_20, pchBpmg2_20⟩, -⟩ := hBpmg.three
    go_wp2_with fail
    clear pchBpmr0_16 pchBpmr1_16 pchBpmr2_16
    clear pchBpms0_17 pchBpms1_17 pchBpms2_17
    clear pchBpmt0_18 pchBpmt1_18 pchBpmt2_18
    clear pchBpmf0_19 pchBpmf1_19 pchBpmf2_19
    clear pchBpmg0_20 pchBpmg1_20 pchBpmg2_20
    refine (sz_M hAms (by omega) (by omega)).mono ?_; rintro e wz1 ⟨rfl, hGz1⟩; have hsz1 := hGz1.size; replace hT := hT.trans hGz1; replace hAmr := hAmr.grow hGz1; replace hAms := hAms.grow hGz1; replace hAmt := hAmt.grow hGz1; replace hAmf := hAmf.grow hGz1; replace hAmg := hAmg.grow hGz1; replace hBpmr := hBpmr.grow hGz1; replace hBpms := hBpms.grow hGz1; replace hBpmt := hBpmt.grow hGz1; replace hBpmf := hBpmf.grow hGz1; replace hBpmg := hBpmg.grow hGz1; clear hGz1
    obtain ⟨⟨pchBpmr0_21, pchBpmr1_21, pchBpmr2_21⟩, -⟩ := hBpmr.three
    obtain ⟨⟨pchBpms0_22, pchBpms1_22, pchBpms2_22⟩, -⟩ := hBpms.three
    obtain ⟨⟨pchBpmt0_23, pchBpmt1_23, pchBpmt2_23⟩, -⟩ := hBpmt.three
    obtain ⟨⟨pchBpmf0_24, pchBpmf1_24, pchBpmf2_24⟩, -⟩ := hBpmf.three
    obtain ⟨⟨pchBpmg0_25, pchBpmg1_25, pchBpmg2_25⟩, -⟩ := hBpmg.three
    go_wp2_with fail
    clear pchBpmr0_21 pchBpmr1_21 pchBpmr2_21
    clear pchBpms0_22 pchBpms1_22 pchBpms2_22
    clear pchBpmt0_23 pchBpmt1_23 pchBpmt2_23
    clear pchBpmf0_24 pchBpmf1_24 pchBpmf2_24
    clear pchBpmg0_25 pchBpmg1_25 pchBpmg2_25
    refine (sz_M hAmt (by omega) (by omega)).mono ?_; rintro e wz2 ⟨rfl, hGz2⟩; have hsz2 := hGz2.size; replace hT := hT.trans hGz2; replace hAmr := hAmr.grow hGz2; replace hAms := hAms.grow hGz2; replace hAmt := hAmt.grow hGz2; replace hAmf := hAmf.grow hGz2; replace hAmg := hAmg.grow hGz2; replace hBpmr := hBpmr.grow hGz2; replace hBpms := hBpms.grow hGz2; replace hBpmt := hBpmt.grow hGz2; replace hBpmf := hBpmf.grow hGz2; replace hBpmg := hBpmg.grow hGz2; clear hGz2
    obtain ⟨⟨pchBpmr0_26, pchBpmr1_26, pchBpmr2_26⟩, -⟩ := hBpmr.three
    obtain ⟨⟨pchBpms0_27, pchBpms1_27, pchBpms2_27⟩, -⟩ := hBpms.three
    obtain ⟨⟨pchBpmt0_28, pchBpmt1_28, pchBpmt2_28⟩, -⟩ := hBpmt.three
    obtain ⟨⟨pchBpmf0_29, pchBpmf1_29, pchBpmf2_29⟩, -⟩ := hBpmf.three
    obtain ⟨⟨pchBpmg0_30, pchBpmg1_30, pchBpmg2_30⟩, -⟩ := hBpmg.three
    go_wp2_with fail
    clear pchBpmr0_26 pchBpmr1_26 pchBpmr2_26
    clear pchBpms0_27 pchBpms1_27 pchBpms2_27
    clear pchBpmt0_28 pchBpmt1_28 pchBpmt2_28
    clear pchBpmf0_29 pchBpmf1_29 pchBpmf2_29
    clear pchBpmg0_30 pchBpmg1_30 pchBpmg2_30
    all_goals (go_ret; exact ⟨rfl, hT⟩)
  have hzmt := sz_M_ok (l := mt) (left := ((1048576 - (bdM mr : Int)) - (bdM ms : Int))) (by omega)
  have hBmt : bdM mt ≤ 1048576 := by omega
  by_cases hbmf : szM (((1048576 - (bdM mr : Int)) - (bdM ms : Int)) - (bdM mt : Int)) mf < 0
  · skip
    go_enter Try.func6, Try.ntmps6
    go_wp2_with fail
    rw [← HwB.out]
    refine (sz_M hAmr (by omega) (by omega)).mono ?_; rintro e wz0 ⟨rfl, hGz0⟩; have hsz0 := hGz0.size; replace hT := hT.trans hGz0; replace hAmr := hAmr.grow hGz0; replace hAms := hAms.grow hGz0; replace hAmt := hAmt.grow hGz0; replace hAmf := hAmf.grow hGz0; replace hAmg := hAmg.grow hGz0; replace hBpmr := hBpmr.grow hGz0; replace hBpms := hBpms.grow hGz0; replace hBpmt := hBpmt.grow hGz0; replace hBpmf := hBpmf.grow hGz0; replace hBpmg := hBpmg.grow hGz0; clear hGz0
    obtain ⟨⟨pchBpmr0_31, pchBpmr1_31, pchBpmr2_31⟩, -⟩ := hBpmr.three
    obtain ⟨⟨pchBpms0_32, pchBpms1_32, pchBpms2_32⟩, -⟩ := hBpms.three
    obtain ⟨⟨pchBpmt0_33, pchBpmt1_33, pchBpmt2_33⟩, -⟩ := hBpmt.three
    obtain ⟨⟨pchBpmf0_34, pchBpmf1_34, pchBpmf2_34⟩, -⟩ := hBpmf.three
    obtain ⟨⟨pchBpmg0_35, pchBpmg1_35, pchBpmg2_35⟩, -⟩ := hBpmg.three
    go_wp2_with fail
    clear pchBpmr0_31 pchBpmr1_31 pchBpmr2_31
    clear pchBpms0_32 pchBpms1_32 pchBpms2_32
    clear pchBpmt0_33 pchBpmt1_33 pchBpmt2_33
    clear pchBpmf0_34 pchBpmf1_34 pchBpmf2_34
    clear pchBpmg0_35 pchBpmg1_35 pchBpmg2_35
    refine (sz_M hAms (by omega) (by omega)).mono ?_; rintro e wz1 ⟨rfl, hGz1⟩; have hsz1 := hGz1.size; replace hT := hT.trans hGz1; replace hAmr := hAmr.grow hGz1; replace hAms := hAms.grow hGz1; replace hAmt := hAmt.grow hGz1; replace hAmf := hAmf.grow hGz1; replace hAmg := hAmg.grow hGz1; replace hBpmr := hBpmr.grow hGz1; replace hBpms := hBpms.grow hGz1; replace hBpmt := hBpmt.grow hGz1; replace hBpmf := hBpmf.grow hGz1; replace hBpmg := hBpmg.grow hGz1; clear hGz1
    obtain ⟨⟨pchBpmr0_36, pchBpmr1_36, pchBpmr2_36⟩, -⟩ := hBpmr.three
    obtain ⟨⟨pchBpms0_37, pchBpms1_37, pchBpms2_37⟩, -⟩ := hBpms.three
    obtain ⟨⟨pchBpmt0_38, pchBpmt1_38, pchBpmt2_38⟩, -⟩ := hBpmt.three
    obtain ⟨⟨pchBpmf0_39, pchBpmf1_39, pchBpmf2_39⟩, -⟩ := hBpmf.three
    obtain ⟨⟨pchBpmg0_40, pchBpmg1_40, pchBpmg2_40⟩, -⟩ := hBpmg.three
    go_wp2_with fail
    clear pchBpmr0_36 pchBpmr1_36 pchBpmr2_36
    clear pchBpms0_37 pchBpms1_37 pchBpms2_37
    clear pchBpmt0_38 pchBpmt1_38 pchBpmt2_38
    clear pchBpmf0_39 pchBpmf1_39 pchBpmf2_39
    clear pchBpmg0_40 pchBpmg1_40 pchBpmg2_40
    refine (sz_M hAmt (by omega) (by omega)).mono ?_; rintro e wz2 ⟨rfl, hGz2⟩; have hsz2 := hGz2.size; replace hT := hT.trans hGz2; replace hAmr := hAmr.grow hGz2; replace hAms := hAms.grow hGz2; replace hAmt := hAmt.grow hGz2; replace hAmf := hAmf.grow hGz2; replace hAmg := hAmg.grow hGz2; replace hBpmr := hBpmr.grow hGz2; replace hBpms := hBpms.grow hGz2; replace hBpmt := hBpmt.grow hGz2; replace hBpmf := hBpmf.grow hGz2; replace hBpmg := hBpmg.grow hGz2; clear hGz2
    obtain ⟨⟨pchBpmr0_41, pchBpmr1_41, pchBpmr2_41⟩, -⟩ := hBpmr.three
    obtain ⟨⟨pchBpms0_42, pchBpms1_42, pchBpms2_42⟩, -⟩ := hBpms.three
    obtain ⟨⟨pchBpmt0_43, pchBpmt1_43, pchBpmt2_43⟩, -⟩ := hBpmt.three
    obtain ⟨⟨pchBpmf0_44, pchBpmf1_44, pchBpmf2_44⟩, -⟩ := hBpmf.three
    obtain ⟨⟨pchBpmg0_45, pchBpmg1_45, pchBpmg2_45⟩, -⟩ := hBpmg.three
    go_wp2_with fail
    clear pchBpmr0_41 pchBpmr1_41 pchBpmr2_41
    clear pchBpms0_42 pchBpms1_42 pchBpms2_42
    clear pchBpmt0_43 pchBpmt1_43 pchBpmt2_43
    clear pchBpmf0_44 pchBpmf1_44 pchBpmf2_44
    clear pchBpmg0_45 pchBpmg1_45 pchBpmg2_45
    refine (sz_M hAmf (by omega) (by omega)).mono ?_; rintro e wz3 ⟨rfl, hGz3⟩; have hsz3 := hGz3.size; replace hT := hT.trans hGz3; replace hAmr := hAmr.grow hGz3; replace hAms := hAms.grow hGz3; replace hAmt := hAmt.grow hGz3; replace hAmf := hAmf.grow hGz3; replace hAmg := hAmg.grow hGz3; replace hBpmr := hBpmr.grow hGz3; replace hBpms := hBpms.grow hGz3; replace hBpmt := hBpmt.grow hGz3; replace hBpmf := hBpmf.grow hGz3; replace hBpmg := hBpmg.grow hGz3; clear hGz3
    obtain ⟨⟨pchBpmr0_46, pchBpmr1_46, pchBpmr2_46⟩, -⟩ := hBpmr.three
    obtain ⟨⟨pchBpms0_47, pchBpms1_47, pchBpms2_47⟩, -⟩ := hBpms.three
    obtain ⟨⟨pchBpmt0_48, pchBpmt1_48, pchBpmt2_48⟩, -⟩ := hBpmt.three
    obtain ⟨⟨pchBpmf0_49, pchBpmf1_49, pchBpmf2_49⟩, -⟩ := hBpmf.three
    obtain ⟨⟨pchBpmg0_50, pchBpmg1_50, pchBpmg2_50⟩, -⟩ := hBpmg.three
    go_wp2_with fail
    clear pchBpmr0_46 pchBpmr1_46 pchBpmr2_46
    clear pchBpms0_47 pchBpms1_47 pchBpms2_47
    clear pchBpmt0_48 pchBpmt1_48 pchBpmt2_48
    clear pchBpmf0_49 pchBpmf1_49 pchBpmf2_49
    clear pchBpmg0_50 pchBpmg1_50 pchBpmg2_50
    all_goals (go_ret; exact ⟨rfl, hT⟩)
  have hzmf := sz_M_ok (l := mf) (left := (((1048576 - (bdM mr : Int)) - (bdM ms : Int)) - (bdM mt : Int))) (by omega)
  have hBmf : bdM mf ≤ 1048576 := by omega
  by_cases hbmg : szM ((((1048576 - (bdM mr : Int)) - (bdM ms : Int)) - (bdM mt : Int)) - (bdM mf : Int)) mg < 0
  · skip
    go_enter Try.func6, Try.ntmps6
    go_wp2_with fail
    rw [← HwB.out]
    refine (sz_M hAmr (by omega) (by omega)).mono ?_; rintro e wz0 ⟨rfl, hGz0⟩; have hsz0 := hGz0.size; replace hT := hT.trans hGz0; replace hAmr := hAmr.grow hGz0; replace hAms := hAms.grow hGz0; replace hAmt := hAmt.grow hGz0; replace hAmf := hAmf.grow hGz0; replace hAmg := hAmg.grow hGz0; replace hBpmr := hBpmr.grow hGz0; replace hBpms := hBpms.grow hGz0; replace hBpmt := hBpmt.grow hGz0; replace hBpmf := hBpmf.grow hGz0; replace hBpmg := hBpmg.grow hGz0; clear hGz0
    obtain ⟨⟨pchBpmr0_51, pchBpmr1_51, pchBpmr2_51⟩, -⟩ := hBpmr.three
    obtain ⟨⟨pchBpms0_52, pchBpms1_52, pchBpms2_52⟩, -⟩ := hBpms.three
    obtain ⟨⟨pchBpmt0_53, pchBpmt1_53, pchBpmt2_53⟩, -⟩ := hBpmt.three
    obtain ⟨⟨pchBpmf0_54, pchBpmf1_54, pchBpmf2_54⟩, -⟩ := hBpmf.three
    obtain ⟨⟨pchBpmg0_55, pchBpmg1_55, pchBpmg2_55⟩, -⟩ := hBpmg.three
    go_wp2_with fail
    clear pchBpmr0_51 pchBpmr1_51 pchBpmr2_51
    clear pchBpms0_52 pchBpms1_52 pchBpms2_52
    clear pchBpmt0_53 pchBpmt1_53 pchBpmt2_53
    clear pchBpmf0_54 pchBpmf1_54 pchBpmf2_54
    clear pchBpmg0_55 pchBpmg1_55 pchBpmg2_55
    refine (sz_M hAms (by omega) (by omega)).mono ?_; rintro e wz1 ⟨rfl, hGz1⟩; have hsz1 := hGz1.size; replace hT := hT.trans hGz1; replace hAmr := hAmr.grow hGz1; replace hAms := hAms.grow hGz1; replace hAmt := hAmt.grow hGz1; replace hAmf := hAmf.grow hGz1; replace hAmg := hAmg.grow hGz1; replace hBpmr := hBpmr.grow hGz1; replace hBpms := hBpms.grow hGz1; replace hBpmt := hBpmt.grow hGz1; replace hBpmf := hBpmf.grow hGz1; replace hBpmg := hBpmg.grow hGz1; clear hGz1
    obtain ⟨⟨pchBpmr0_56, pchBpmr1_56, pchBpmr2_56⟩, -⟩ := hBpmr.three
    obtain ⟨⟨pchBpms0_57, pchBpms1_57, pchBpms2_57⟩, -⟩ := hBpms.three
    obtain ⟨⟨pchBpmt0_58, pchBpmt1_58, pchBpmt2_58⟩, -⟩ := hBpmt.three
    obtain ⟨⟨pchBpmf0_59, pchBpmf1_59, pchBpmf2_59⟩, -⟩ := hBpmf.three
    obtain ⟨⟨pchBpmg0_60, pchBpmg1_60, pchBpmg2_60⟩, -⟩ := hBpmg.three
    go_wp2_with fail
    clear pchBpmr0_56 pchBpmr1_56 pchBpmr2_56
    clear pchBpms0_57 pchBpms1_57 pchBpms2_57
    clear pchBpmt0_58 pchBpmt1_58 pchBpmt2_58
    clear pchBpmf0_59 pchBpmf1_59 pchBpmf2_59
    clear pchBpmg0_60 pchBpmg1_60 pchBpmg2_60
    refine (sz_M hAmt (by omega) (by omega)).mono ?_; rintro e wz2 ⟨rfl, hGz2⟩; have hsz2 := hGz2.size; replace hT := hT.trans hGz2; replace hAmr := hAmr.grow hGz2; replace hAms := hAms.grow hGz2; replace hAmt := hAmt.grow hGz2; replace hAmf := hAmf.grow hGz2; replace hAmg := hAmg.grow hGz2; replace hBpmr := hBpmr.grow hGz2; replace hBpms := hBpms.grow hGz2; replace hBpmt := hBpmt.grow hGz2; replace hBpmf := hBpmf.grow hGz2; replace hBpmg := hBpmg.grow hGz2; clear hGz2
    obtain ⟨⟨pchBpmr0_61, pchBpmr1_61, pchBpmr2_61⟩, -⟩ := hBpmr.three
    obtain ⟨⟨pchBpms0_62, pchBpms1_62, pchBpms2_62⟩, -⟩ := hBpms.three
    obtain ⟨⟨pchBpmt0_63, pchBpmt1_63, pchBpmt2_63⟩, -⟩ := hBpmt.three
    obtain ⟨⟨pchBpmf0_64, pchBpmf1_64, pchBpmf2_64⟩, -⟩ := hBpmf.three
    obtain ⟨⟨pchBpmg0_65, pchBpmg1_65, pchBpmg2_65⟩, -⟩ := hBpmg.three
    go_wp2_with fail
    clear pchBpmr0_61 pchBpmr1_61 pchBpmr2_61
    clear pchBpms0_62 pchBpms1_62 pchBpms2_62
    clear pchBpmt0_63 pchBpmt1_63 pchBpmt2_63
    clear pchBpmf0_64 pchBpmf1_64 pchBpmf2_64
    clear pchBpmg0_65 pchBpmg1_65 pchBpmg2_65
    refine (sz_M hAmf (by omega) (by omega)).mono ?_; rintro e wz3 ⟨rfl, hGz3⟩; have hsz3 := hGz3.size; replace hT := hT.trans hGz3; replace hAmr := hAmr.grow hGz3; replace hAms := hAms.grow hGz3; replace hAmt := hAmt.grow hGz3; replace hAmf := hAmf.grow hGz3; replace hAmg := hAmg.grow hGz3; replace hBpmr := hBpmr.grow hGz3; replace hBpms := hBpms.grow hGz3; replace hBpmt := hBpmt.grow hGz3; replace hBpmf := hBpmf.grow hGz3; replace hBpmg := hBpmg.grow hGz3; clear hGz3
    obtain ⟨⟨pchBpmr0_66, pchBpmr1_66, pchBpmr2_66⟩, -⟩ := hBpmr.three
    obtain ⟨⟨pchBpms0_67, pchBpms1_67, pchBpms2_67⟩, -⟩ := hBpms.three
    obtain ⟨⟨pchBpmt0_68, pchBpmt1_68, pchBpmt2_68⟩, -⟩ := hBpmt.three
    obtain ⟨⟨pchBpmf0_69, pchBpmf1_69, pchBpmf2_69⟩, -⟩ := hBpmf.three
    obtain ⟨⟨pchBpmg0_70, pchBpmg1_70, pchBpmg2_70⟩, -⟩ := hBpmg.three
    go_wp2_with fail
    clear pchBpmr0_66 pchBpmr1_66 pchBpmr2_66
    clear pchBpms0_67 pchBpms1_67 pchBpms2_67
    clear pchBpmt0_68 pchBpmt1_68 pchBpmt2_68
    clear pchBpmf0_69 pchBpmf1_69 pchBpmf2_69
    clear pchBpmg0_70 pchBpmg1_70 pchBpmg2_70
    refine (sz_M hAmg (by omega) (by omega)).mono ?_; rintro e wz4 ⟨rfl, hGz4⟩; have hsz4 := hGz4.size; replace hT := hT.trans hGz4; replace hAmr := hAmr.grow hGz4; replace hAms := hAms.grow hGz4; replace hAmt := hAmt.grow hGz4; replace hAmf := hAmf.grow hGz4; replace hAmg := hAmg.grow hGz4; replace hBpmr := hBpmr.grow hGz4; replace hBpms := hBpms.grow hGz4; replace hBpmt := hBpmt.grow hGz4; replace hBpmf := hBpmf.grow hGz4; replace hBpmg := hBpmg.grow hGz4; clear hGz4
    obtain ⟨⟨pchBpmr0_71, pchBpmr1_71, pchBpmr2_71⟩, -⟩ := hBpmr.three
    obtain ⟨⟨pchBpms0_72, pchBpms1_72, pchBpms2_72⟩, -⟩ := hBpms.three
    obtain ⟨⟨pchBpmt0_73, pchBpmt1_73, pchBpmt2_73⟩, -⟩ := hBpmt.three
    obtain ⟨⟨pchBpmf0_74, pchBpmf1_74, pchBpmf2_74⟩, -⟩ := hBpmf.three
    obtain ⟨⟨pchBpmg0_75, pchBpmg1_75, pchBpmg2_75⟩, -⟩ := hBpmg.three
    go_wp2_with fail
    clear pchBpmr0_71 pchBpmr1_71 pchBpmr2_71
    clear pchBpms0_72 pchBpms1_72 pchBpms2_72
    clear pchBpmt0_73 pchBpmt1_73 pchBpmt2_73
    clear pchBpmf0_74 pchBpmf1_74 pchBpmf2_74
    clear pchBpmg0_75 pchBpmg1_75 pchBpmg2_75
    all_goals (go_ret; exact ⟨rfl, hT⟩)
  have hzmg := sz_M_ok (l := mg) (left := ((((1048576 - (bdM mr : Int)) - (bdM ms : Int)) - (bdM mt : Int)) - (bdM mf : Int))) (by omega)
  have hBmg : bdM mg ≤ 1048576 := by omega
  go_enter Try.func6, Try.ntmps6
  go_wp2_with fail
  rw [← HwB.out]
  refine (sz_M hAmr (by omega) (by omega)).mono ?_; rintro e wz0 ⟨rfl, hGz0⟩; have hsz0 := hGz0.size; replace hT := hT.trans hGz0; replace hAmr := hAmr.grow hGz0; replace hAms := hAms.grow hGz0; replace hAmt := hAmt.grow hGz0; replace hAmf := hAmf.grow hGz0; replace hAmg := hAmg.grow hGz0; replace hBpmr := hBpmr.grow hGz0; replace hBpms := hBpms.grow hGz0; replace hBpmt := hBpmt.grow hGz0; replace hBpmf := hBpmf.grow hGz0; replace hBpmg := hBpmg.grow hGz0; clear hGz0
  obtain ⟨⟨pchBpmr0_76, pchBpmr1_76, pchBpmr2_76⟩, -⟩ := hBpmr.three
  obtain ⟨⟨pchBpms0_77, pchBpms1_77, pchBpms2_77⟩, -⟩ := hBpms.three
  obtain ⟨⟨pchBpmt0_78, pchBpmt1_78, pchBpmt2_78⟩, -⟩ := hBpmt.three
  obtain ⟨⟨pchBpmf0_79, pchBpmf1_79, pchBpmf2_79⟩, -⟩ := hBpmf.three
  obtain ⟨⟨pchBpmg0_80, pchBpmg1_80, pchBpmg2_80⟩, -⟩ := hBpmg.three
  go_wp2_with fail
  clear pchBpmr0_76 pchBpmr1_76 pchBpmr2_76
  clear pchBpms0_77 pchBpms1_77 pchBpms2_77
  clear pchBpmt0_78 pchBpmt1_78 pchBpmt2_78
  clear pchBpmf0_79 pchBpmf1_79 pchBpmf2_79
  clear pchBpmg0_80 pchBpmg1_80 pchBpmg2_80
  refine (sz_M hAms (by omega) (by omega)).mono ?_; rintro e wz1 ⟨rfl, hGz1⟩; have hsz1 := hGz1.size; replace hT := hT.trans hGz1; replace hAmr := hAmr.grow hGz1; replace hAms := hAms.grow hGz1; replace hAmt := hAmt.grow hGz1; replace hAmf := hAmf.grow hGz1; replace hAmg := hAmg.grow hGz1; replace hBpmr := hBpmr.grow hGz1; replace hBpms := hBpms.grow hGz1; replace hBpmt := hBpmt.grow hGz1; replace hBpmf := hBpmf.grow hGz1; replace hBpmg := hBpmg.grow hGz1; clear hGz1
  obtain ⟨⟨pchBpmr0_81, pchBpmr1_81, pchBpmr2_81⟩, -⟩ := hBpmr.three
  obtain ⟨⟨pchBpms0_82, pchBpms1_82, pchBpms2_82⟩, -⟩ := hBpms.three
  obtain ⟨⟨pchBpmt0_83, pchBpmt1_83, pchBpmt2_83⟩, -⟩ := hBpmt.three
  obtain ⟨⟨pchBpmf0_84, pchBpmf1_84, pchBpmf2_84⟩, -⟩ := hBpmf.three
  obtain ⟨⟨pchBpmg0_85, pchBpmg1_85, pchBpmg2_85⟩, -⟩ := hBpmg.three
  go_wp2_with fail
  clear pchBpmr0_81 pchBpmr1_81 pchBpmr2_81
  clear pchBpms0_82 pchBpms1_82 pchBpms2_82
  clear pchBpmt0_83 pchBpmt1_83 pchBpmt2_83
  clear pchBpmf0_84 pchBpmf1_84 pchBpmf2_84
  clear pchBpmg0_85 pchBpmg1_85 pchBpmg2_85
  refine (sz_M hAmt (by omega) (by omega)).mono ?_; rintro e wz2 ⟨rfl, hGz2⟩; have hsz2 := hGz2.size; replace hT := hT.trans hGz2; replace hAmr := hAmr.grow hGz2; replace hAms := hAms.grow hGz2; replace hAmt := hAmt.grow hGz2; replace hAmf := hAmf.grow hGz2; replace hAmg := hAmg.grow hGz2; replace hBpmr := hBpmr.grow hGz2; replace hBpms := hBpms.grow hGz2; replace hBpmt := hBpmt.grow hGz2; replace hBpmf := hBpmf.grow hGz2; replace hBpmg := hBpmg.grow hGz2; clear hGz2
  obtain ⟨⟨pchBpmr0_86, pchBpmr1_86, pchBpmr2_86⟩, -⟩ := hBpmr.three
  obtain ⟨⟨pchBpms0_87, pchBpms1_87, pchBpms2_87⟩, -⟩ := hBpms.three
  obtain ⟨⟨pchBpmt0_88, pchBpmt1_88, pchBpmt2_88⟩, -⟩ := hBpmt.three
  obtain ⟨⟨pchBpmf0_89, pchBpmf1_89, pchBpmf2_89⟩, -⟩ := hBpmf.three
  obtain ⟨⟨pchBpmg0_90, pchBpmg1_90, pchBpmg2_90⟩, -⟩ := hBpmg.three
  go_wp2_with fail
  clear pchBpmr0_86 pchBpmr1_86 pchBpmr2_86
  clear pchBpms0_87 pchBpms1_87 pchBpms2_87
  clear pchBpmt0_88 pchBpmt1_88 pchBpmt2_88
  clear pchBpmf0_89 pchBpmf1_89 pchBpmf2_89
  clear pchBpmg0_90 pchBpmg1_90 pchBpmg2_90
  refine (sz_M hAmf (by omega) (by omega)).mono ?_; rintro e wz3 ⟨rfl, hGz3⟩; have hsz3 := hGz3.size; replace hT := hT.trans hGz3; replace hAmr := hAmr.grow hGz3; replace hAms := hAms.grow hGz3; replace hAmt := hAmt.grow hGz3; replace hAmf := hAmf.grow hGz3; replace hAmg := hAmg.grow hGz3; replace hBpmr := hBpmr.grow hGz3; replace hBpms := hBpms.grow hGz3; replace hBpmt := hBpmt.grow hGz3; replace hBpmf := hBpmf.grow hGz3; replace hBpmg := hBpmg.grow hGz3; clear hGz3
  obtain ⟨⟨pchBpmr0_91, pchBpmr1_91, pchBpmr2_91⟩, -⟩ := hBpmr.three
  obtain ⟨⟨pchBpms0_92, pchBpms1_92, pchBpms2_92⟩, -⟩ := hBpms.three
  obtain ⟨⟨pchBpmt0_93, pchBpmt1_93, pchBpmt2_93⟩, -⟩ := hBpmt.three
  obtain ⟨⟨pchBpmf0_94, pchBpmf1_94, pchBpmf2_94⟩, -⟩ := hBpmf.three
  obtain ⟨⟨pchBpmg0_95, pchBpmg1_95, pchBpmg2_95⟩, -⟩ := hBpmg.three
  go_wp2_with fail
  clear pchBpmr0_91 pchBpmr1_91 pchBpmr2_91
  clear pchBpms0_92 pchBpms1_92 pchBpms2_92
  clear pchBpmt0_93 pchBpmt1_93 pchBpmt2_93
  clear pchBpmf0_94 pchBpmf1_94 pchBpmf2_94
  clear pchBpmg0_95 pchBpmg1_95 pchBpmg2_95
  refine (sz_M hAmg (by omega) (by omega)).mono ?_; rintro e wz4 ⟨rfl, hGz4⟩; have hsz4 := hGz4.size; replace hT := hT.trans hGz4; replace hAmr := hAmr.grow hGz4; replace hAms := hAms.grow hGz4; replace hAmt := hAmt.grow hGz4; replace hAmf := hAmf.grow hGz4; replace hAmg := hAmg.grow hGz4; replace hBpmr := hBpmr.grow hGz4; replace hBpms := hBpms.grow hGz4; replace hBpmt := hBpmt.grow hGz4; replace hBpmf := hBpmf.grow hGz4; replace hBpmg := hBpmg.grow hGz4; clear hGz4
  obtain ⟨⟨pchBpmr0_96, pchBpmr1_96, pchBpmr2_96⟩, -⟩ := hBpmr.three
  obtain ⟨⟨pchBpms0_97, pchBpms1_97, pchBpms2_97⟩, -⟩ := hBpms.three
  obtain ⟨⟨pchBpmt0_98, pchBpmt1_98, pchBpmt2_98⟩, -⟩ := hBpmt.three
  obtain ⟨⟨pchBpmf0_99, pchBpmf1_99, pchBpmf2_99⟩, -⟩ := hBpmf.three
  obtain ⟨⟨pchBpmg0_100, pchBpmg1_100, pchBpmg2_100⟩, -⟩ := hBpmg.three
  go_wp2_with fail
  clear pchBpmr0_96 pchBpmr1_96 pchBpmr2_96
  clear pchBpms0_97 pchBpms1_97 pchBpms2_97
  clear pchBpmt0_98 pchBpmt1_98 pchBpmt2_98
  clear pchBpmf0_99 pchBpmf1_99 pchBpmf2_99
  clear pchBpmg0_100 pchBpmg1_100 pchBpmg2_100
  refine wp_region_segs (S := Grow wz4) [([0, 2, 4, 6, 8], some 1), ([], some 3), ([], some 5), ([], some 7), ([], some 9), ([], some 10), ([11, 12, 13, 14, 15], none)] P_mixed (by kernel_rfl) (fun _ _ _ _ _ h => h) (Grow.refl _).drew ?_
  show wpQuiet _ _ _ _ [_, _, _, _, _] _
  repeat (first | go_big_quiet_skip | (go_big_quiet_want; first | (apply quiet_load3 T_lmat; rfl; rfl; exact (fun w' hG => hBpmr.grow hG); go_big_quiet_on; simp only [Act.put, List.setIfInBounds_toArray, List.set_cons_succ, List.set_cons_zero]) | (apply quiet_load3 T_lmat; rfl; rfl; exact (fun w' hG => hBpms.grow hG); go_big_quiet_on; simp only [Act.put, List.setIfInBounds_toArray, List.set_cons_succ, List.set_cons_zero]) | (apply quiet_load3 T_lmat; rfl; rfl; exact (fun w' hG => hBpmt.grow hG); go_big_quiet_on; simp only [Act.put, List.setIfInBounds_toArray, List.set_cons_succ, List.set_cons_zero]) | (apply quiet_load3 T_lmat; rfl; rfl; exact (fun w' hG => hBpmf.grow hG); go_big_quiet_on; simp only [Act.put, List.setIfInBounds_toArray, List.set_cons_succ, List.set_cons_zero]) | (apply quiet_load3 T_lmat; rfl; rfl; exact (fun w' hG => hBpmg.grow hG); go_big_quiet_on; simp only [Act.put, List.setIfInBounds_toArray, List.set_cons_succ, List.set_cons_zero]) | (go_big_quiet_op; first | go_big_quiet_on | (refine ⟨_, (fun _ _ => rfl), ?_⟩; go_big_quiet_on))))
  refine wpQuiet_nil ?_
  generalize hwd : wz4.drew = w1
  have hQ : Grow wz4 w1 := by rw [← hwd]; exact (Grow.refl _).drew
  clear hwd
  have hs1 := hQ.size
  replace hAmr := hAmr.grow hQ
  replace hAms := hAms.grow hQ
  replace hAmt := hAmt.grow hQ
  replace hAmf := hAmf.grow hQ
  replace hAmg := hAmg.grow hQ
  replace hBpmr := hBpmr.grow hQ
  replace hBpms := hBpms.grow hQ
  replace hBpmt := hBpmt.grow hQ
  replace hBpmf := hBpmf.grow hQ
  replace hBpmg := hBpmg.grow hQ
  replace hT := hT.trans hQ
  refine seg_go rfl (fun K hK => ?_)
  go_wp2_with fail
  refine (to_M hAmr hBmr).mono ?_
  rintro e w2 ⟨tmr, rfl, hCmr, hG2⟩
  have hs2 := hG2.size
  replace hAmr := hAmr.grow hG2
  replace hAms := hAms.grow hG2
  replace hAmt := hAmt.grow hG2
  replace hAmf := hAmf.grow hG2
  replace hAmg := hAmg.grow hG2
  replace hBpmr := hBpmr.grow hG2
  replace hBpms := hBpms.grow hG2
  replace hBpmt := hBpmt.grow hG2
  replace hBpmf := hBpmf.grow hG2
  replace hBpmg := hBpmg.grow hG2
  replace hT := hT.trans hG2
  replace hQ := hQ.trans hG2
  clear hG2
  obtain ⟨tmra, tmrn, tmrc, rfl, hCmrx⟩ := hCmr
  replace hCmr : OM w2 (New w1 w2) (.agg #[.int .i64 (mr).rows, .int .i64 (mr).cols, .slice tmra tmrn tmrc]) mr := ⟨_, _, _, rfl, hCmrx⟩
  clear hCmrx
  go_wp2_with fail
  refine hK _ _ (hQ) ?_
  clear hK K
  show wpQuiet _ _ _ _ [] _
  try (conv => arg 6; simp only [Act.put, List.setIfInBounds_toArray, List.set_cons_succ, List.set_cons_zero])
  refine wpQuiet_nil ?_
  refine seg_go rfl (fun K hK => ?_)
  go_wp2_with fail
  refine (to_M hAms hBms).mono ?_
  rintro e w3 ⟨tms, rfl, hCms, hG3⟩
  have hs3 := hG3.size
  replace hAmr := hAmr.grow hG3
  replace hAms := hAms.grow hG3
  replace hAmt := hAmt.grow hG3
  replace hAmf := hAmf.grow hG3
  replace hAmg := hAmg.grow hG3
  replace hCmr := hCmr.grow hG3
  replace hBpmr := hBpmr.grow hG3
  replace hBpms := hBpms.grow hG3
  replace hBpmt := hBpmt.grow hG3
  replace hBpmf := hBpmf.grow hG3
  replace hBpmg := hBpmg.grow hG3
  replace hT := hT.trans hG3
  replace hQ := hQ.trans hG3
  clear hG3
  obtain ⟨tmsa, tmsn, tmsc, rfl, hCmsx⟩ := hCms
  replace hCms : OM w3 (New w2 w3) (.agg #[.int .i64 (ms).rows, .int .i64 (ms).cols, .slice tmsa tmsn tmsc]) ms := ⟨_, _, _, rfl, hCmsx⟩
  clear hCmsx
  go_wp2_with fail
  refine hK _ _ (hQ) ?_
  clear hK K
  show wpQuiet _ _ _ _ [] _
  try (conv => arg 6; simp only [Act.put, List.setIfInBounds_toArray, List.set_cons_succ, List.set_cons_zero])
  refine wpQuiet_nil ?_
  refine seg_go rfl (fun K hK => ?_)
  go_wp2_with fail
  refine (to_M hAmt hBmt).mono ?_
  rintro e w4 ⟨tmt, rfl, hCmt, hG4⟩
  have hs4 := hG4.size
  replace hAmr := hAmr.grow hG4
  replace hAms := hAms.grow hG4
  replace hAmt := hAmt.grow hG4
  replace hAmf := hAmf.grow hG4
  replace hAmg := hAmg.grow hG4
  replace hCmr := hCmr.grow hG4
  replace hCms := hCms.grow hG4
  replace hBpmr := hBpmr.grow hG4
  replace hBpms := hBpms.grow hG4
  replace hBpmt := hBpmt.grow hG4
  replace hBpmf := hBpmf.grow hG4
  replace hBpmg := hBpmg.grow hG4
  replace hT := hT.trans hG4
  replace hQ := hQ.trans hG4
  clear hG4
  obtain ⟨tmta, tmtn, tmtc, rfl, hCmtx⟩ := hCmt
  replace hCmt : OM w4 (New w3 w4) (.agg #[.int .i64 (mt).rows, .int .i64 (mt).cols, .slice tmta tmtn tmtc]) mt := ⟨_, _, _, rfl, hCmtx⟩
  clear hCmtx
  go_wp2_with fail
  refine hK _ _ (hQ) ?_
  clear hK K
  show wpQuiet _ _ _ _ [] _
  try (conv => arg 6; simp only [Act.put, List.setIfInBounds_toArray, List.set_cons_succ, List.set_cons_zero])
  refine wpQuiet_nil ?_
  refine seg_go rfl (fun K hK => ?_)
  go_wp2_with fail
  refine (to_M hAmf hBmf).mono ?_
  rintro e w5 ⟨tmf, rfl, hCmf, hG5⟩
  have hs5 := hG5.size
  replace hAmr := hAmr.grow hG5
  replace hAms := hAms.grow hG5
  replace hAmt := hAmt.grow hG5
  replace hAmf := hAmf.grow hG5
  replace hAmg := hAmg.grow hG5
  replace hCmr := hCmr.grow hG5
  replace hCms := hCms.grow hG5
  replace hCmt := hCmt.grow hG5
  replace hBpmr := hBpmr.grow hG5
  replace hBpms := hBpms.grow hG5
  replace hBpmt := hBpmt.grow hG5
  replace hBpmf := hBpmf.grow hG5
  replace hBpmg := hBpmg.grow hG5
  replace hT := hT.trans hG5
  replace hQ := hQ.trans hG5
  clear hG5
  obtain ⟨tmfa, tmfn, tmfc, rfl, hCmfx⟩ := hCmf
  replace hCmf : OM w5 (New w4 w5) (.agg #[.int .i64 (mf).rows, .int .i64 (mf).cols, .slice tmfa tmfn tmfc]) mf := ⟨_, _, _, rfl, hCmfx⟩
  clear hCmfx
  go_wp2_with fail
  refine hK _ _ (hQ) ?_
  clear hK K
  show wpQuiet _ _ _ _ [] _
  try (conv => arg 6; simp only [Act.put, List.setIfInBounds_toArray, List.set_cons_succ, List.set_cons_zero])
  refine wpQuiet_nil ?_
  refine seg_go rfl (fun K hK => ?_)
  go_wp2_with fail
  refine (to_M hAmg hBmg).mono ?_
  rintro e w6 ⟨tmg, rfl, hCmg, hG6⟩
  have hs6 := hG6.size
  replace hAmr := hAmr.grow hG6
  replace hAms := hAms.grow hG6
  replace hAmt := hAmt.grow hG6
  replace hAmf := hAmf.grow hG6
  replace hAmg := hAmg.grow hG6
  replace hCmr := hCmr.grow hG6
  replace hCms := hCms.grow hG6
  replace hCmt := hCmt.grow hG6
  replace hCmf := hCmf.grow hG6
  replace hBpmr := hBpmr.grow hG6
  replace hBpms := hBpms.grow hG6
  replace hBpmt := hBpmt.grow hG6
  replace hBpmf := hBpmf.grow hG6
  replace hBpmg := hBpmg.grow hG6
  replace hT := hT.trans hG6
  replace hQ := hQ.trans hG6
  clear hG6
  obtain ⟨tmga, tmgn, tmgc, rfl, hCmgx⟩ := hCmg
  replace hCmg : OM w6 (New w5 w6) (.agg #[.int .i64 (mg).rows, .int .i64 (mg).cols, .slice tmga tmgn tmgc]) mg := ⟨_, _, _, rfl, hCmgx⟩
  clear hCmgx
  go_wp2_with fail
  refine hK _ _ (hQ) ?_
  clear hK K
  show wpQuiet _ _ _ _ [] _
  try (conv => arg 6; simp only [Act.put, List.setIfInBounds_toArray, List.set_cons_succ, List.set_cons_zero])
  refine wpQuiet_nil ?_
  refine seg_go rfl (fun K hK => ?_)
  go_wp2_with fail
  refine (specIsExactAt_v (hCmr.rd (S := fun _ => True) fun _ _ => trivial) hBmr (hCms.rd (S := fun _ => True) fun _ _ => trivial) hBms (hCmt.rd (S := fun _ => True) fun _ _ => trivial) hBmt (hCmf.rd (S := fun _ => True) fun _ _ => trivial) hBmf (hCmg.rd (S := fun _ => True) fun _ _ => trivial) hBmg).mono ?_
  rintro e w7 ⟨rfl, hG7⟩
  clear hCmr
  clear hCms
  clear hCmt
  clear hCmf
  clear hCmg
  have hs7 := hG7.size
  replace hAmr := hAmr.grow hG7
  replace hAms := hAms.grow hG7
  replace hAmt := hAmt.grow hG7
  replace hAmf := hAmf.grow hG7
  replace hAmg := hAmg.grow hG7
  replace hBpmr := hBpmr.grow hG7
  replace hBpms := hBpms.grow hG7
  replace hBpmt := hBpmt.grow hG7
  replace hBpmf := hBpmf.grow hG7
  replace hBpmg := hBpmg.grow hG7
  replace hT := hT.trans hG7
  replace hQ := hQ.trans hG7
  clear hG7
  go_wp2_with fail
  refine hK _ _ (hQ) ?_
  clear hK K
  show wpQuiet _ _ _ _ [_, _, _, _, _] _
  try (conv => arg 6; simp only [Act.put, List.setIfInBounds_toArray, List.set_cons_succ, List.set_cons_zero])
  repeat (first | go_big_quiet_skip | (go_big_quiet_want; first | (apply quiet_load3 T_lmat; rfl; rfl; exact (fun w' hG => hBpmr.grow hG); go_big_quiet_on; simp only [Act.put, List.setIfInBounds_toArray, List.set_cons_succ, List.set_cons_zero]) | (apply quiet_load3 T_lmat; rfl; rfl; exact (fun w' hG => hBpms.grow hG); go_big_quiet_on; simp only [Act.put, List.setIfInBounds_toArray, List.set_cons_succ, List.set_cons_zero]) | (apply quiet_load3 T_lmat; rfl; rfl; exact (fun w' hG => hBpmt.grow hG); go_big_quiet_on; simp only [Act.put, List.setIfInBounds_toArray, List.set_cons_succ, List.set_cons_zero]) | (apply quiet_load3 T_lmat; rfl; rfl; exact (fun w' hG => hBpmf.grow hG); go_big_quiet_on; simp only [Act.put, List.setIfInBounds_toArray, List.set_cons_succ, List.set_cons_zero]) | (apply quiet_load3 T_lmat; rfl; rfl; exact (fun w' hG => hBpmg.grow hG); go_big_quiet_on; simp only [Act.put, List.setIfInBounds_toArray, List.set_cons_succ, List.set_cons_zero]) | (go_big_quiet_op; first | go_big_quiet_on | (refine ⟨_, (fun _ _ => rfl), ?_⟩; go_big_quiet_on))))
  refine wpQuiet_nil ?_
  clear hQ
  refine wpSegs_nil ?_
  obtain ⟨⟨pchBpmr0_101, pchBpmr1_101, pchBpmr2_101⟩, -⟩ := hBpmr.three
  obtain ⟨⟨pchBpms0_102, pchBpms1_102, pchBpms2_102⟩, -⟩ := hBpms.three
  obtain ⟨⟨pchBpmt0_103, pchBpmt1_103, pchBpmt2_103⟩, -⟩ := hBpmt.three
  obtain ⟨⟨pchBpmf0_104, pchBpmf1_104, pchBpmf2_104⟩, -⟩ := hBpmf.three
  obtain ⟨⟨pchBpmg0_105, pchBpmg1_105, pchBpmg2_105⟩, -⟩ := hBpmg.three
  go_wp2_with fail
  clear pchBpmr0_101 pchBpmr1_101 pchBpmr2_101
  clear pchBpms0_102 pchBpms1_102 pchBpms2_102
  clear pchBpmt0_103 pchBpmt1_103 pchBpmt2_103
  clear pchBpmf0_104 pchBpmf1_104 pchBpmf2_104
  clear pchBpmg0_105 pchBpmg1_105 pchBpmg2_105
  refine (to_M hAmr hBmr).mono ?_
  rintro e w8 ⟨xmr, rfl, hXmr, hG8⟩
  have hs8 := hG8.size
  replace hAmr := hAmr.grow hG8
  replace hAms := hAms.grow hG8
  replace hAmt := hAmt.grow hG8
  replace hAmf := hAmf.grow hG8
  replace hAmg := hAmg.grow hG8
  replace hBpmr := hBpmr.grow hG8
  replace hBpms := hBpms.grow hG8
  replace hBpmt := hBpmt.grow hG8
  replace hBpmf := hBpmf.grow hG8
  replace hBpmg := hBpmg.grow hG8
  replace hT := hT.trans hG8
  clear hG8
  obtain ⟨xmra, xmrn, xmrc, rfl, hXmrx⟩ := hXmr
  replace hXmr : OM w8 (New w7 w8) (.agg #[.int .i64 (mr).rows, .int .i64 (mr).cols, .slice xmra xmrn xmrc]) mr := ⟨_, _, _, rfl, hXmrx⟩
  clear hXmrx
  have hGa := (Grow.refl w8).alloc #[.int .i64 (mr).rows, .int .i64 (mr).cols, .slice xmra xmrn xmrc] 27
  have hBkxmr := Blk.newAt w8 #[.int .i64 (mr).rows, .int .i64 (mr).cols, .slice xmra xmrn xmrc] 27 rfl
  replace hAmr := hAmr.grow hGa
  replace hAms := hAms.grow hGa
  replace hAmt := hAmt.grow hGa
  replace hAmf := hAmf.grow hGa
  replace hAmg := hAmg.grow hGa
  replace hXmr := hXmr.grow hGa
  replace hBpmr := hBpmr.grow hGa
  replace hBpms := hBpms.grow hGa
  replace hBpmt := hBpmt.grow hGa
  replace hBpmf := hBpmf.grow hGa
  replace hBpmg := hBpmg.grow hGa
  replace hT := hT.trans hGa
  have hsa8 := hGa.size
  have hsb8 := hBkxmr.lt
  clear hGa
  obtain ⟨⟨chBkxmr0, chBkxmr1, chBkxmr2⟩, -⟩ := hBkxmr.three
  obtain ⟨⟨pchBpmr0_106, pchBpmr1_106, pchBpmr2_106⟩, -⟩ := hBpmr.three
  obtain ⟨⟨pchBpms0_107, pchBpms1_107, pchBpms2_107⟩, -⟩ := hBpms.three
  obtain ⟨⟨pchBpmt0_108, pchBpmt1_108, pchBpmt2_108⟩, -⟩ := hBpmt.three
  obtain ⟨⟨pchBpmf0_109, pchBpmf1_109, pchBpmf2_109⟩, -⟩ := hBpmf.three
  obtain ⟨⟨pchBpmg0_110, pchBpmg1_110, pchBpmg2_110⟩, -⟩ := hBpmg.three
  go_wp2_with fail
  clear chBkxmr0
  clear chBkxmr1
  clear chBkxmr2
  clear pchBpmr0_106 pchBpmr1_106 pchBpmr2_106
  clear pchBpms0_107 pchBpms1_107 pchBpms2_107
  clear pchBpmt0_108 pchBpmt1_108 pchBpmt2_108
  clear pchBpmf0_109 pchBpmf1_109 pchBpmf2_109
  clear pchBpmg0_110 pchBpmg1_110 pchBpmg2_110
  refine (to_M hAms hBms).mono ?_
  rintro e w9 ⟨xms, rfl, hXms, hG9⟩
  have hs9 := hG9.size
  replace hAmr := hAmr.grow hG9
  replace hAms := hAms.grow hG9
  replace hAmt := hAmt.grow hG9
  replace hAmf := hAmf.grow hG9
  replace hAmg := hAmg.grow hG9
  replace hXmr := hXmr.grow hG9
  replace hBkxmr := hBkxmr.grow hG9
  replace hBpmr := hBpmr.grow hG9
  replace hBpms := hBpms.grow hG9
  replace hBpmt := hBpmt.grow hG9
  replace hBpmf := hBpmf.grow hG9
  replace hBpmg := hBpmg.grow hG9
  replace hT := hT.trans hG9
  clear hG9
  obtain ⟨xmsa, xmsn, xmsc, rfl, hXmsx⟩ := hXms
  replace hXms : OM w9 (New w8 w9) (.agg #[.int .i64 (ms).rows, .int .i64 (ms).cols, .slice xmsa xmsn xmsc]) ms := (show OM w9 (New _ w9) (.agg #[.int .i64 (ms).rows, .int .i64 (ms).cols, .slice xmsa xmsn xmsc]) ms from ⟨_, _, _, rfl, hXmsx⟩).weak (fun b _ hb => ⟨Nat.le_trans hsa8 hb.1, hb.2⟩)
  clear hXmsx
  have hGa := (Grow.refl w9).alloc #[.int .i64 (ms).rows, .int .i64 (ms).cols, .slice xmsa xmsn xmsc] 27
  have hBkxms := Blk.newAt w9 #[.int .i64 (ms).rows, .int .i64 (ms).cols, .slice xmsa xmsn xmsc] 27 rfl
  replace hAmr := hAmr.grow hGa
  replace hAms := hAms.grow hGa
  replace hAmt := hAmt.grow hGa
  replace hAmf := hAmf.grow hGa
  replace hAmg := hAmg.grow hGa
  replace hXmr := hXmr.grow hGa
  replace hXms := hXms.grow hGa
  replace hBkxmr := hBkxmr.grow hGa
  replace hBpmr := hBpmr.grow hGa
  replace hBpms := hBpms.grow hGa
  replace hBpmt := hBpmt.grow hGa
  replace hBpmf := hBpmf.grow hGa
  replace hBpmg := hBpmg.grow hGa
  replace hT := hT.trans hGa
  have hsa9 := hGa.size
  have hsb9 := hBkxms.lt
  clear hGa
  obtain ⟨⟨chBkxmr0, chBkxmr1, chBkxmr2⟩, -⟩ := hBkxmr.three
  obtain ⟨⟨chBkxms0, chBkxms1, chBkxms2⟩, -⟩ := hBkxms.three
  obtain ⟨⟨pchBpmr0_111, pchBpmr1_111, pchBpmr2_111⟩, -⟩ := hBpmr.three
  obtain ⟨⟨pchBpms0_112, pchBpms1_112, pchBpms2_112⟩, -⟩ := hBpms.three
  obtain ⟨⟨pchBpmt0_113, pchBpmt1_113, pchBpmt2_113⟩, -⟩ := hBpmt.three
  obtain ⟨⟨pchBpmf0_114, pchBpmf1_114, pchBpmf2_114⟩, -⟩ := hBpmf.three
  obtain ⟨⟨pchBpmg0_115, pchBpmg1_115, pchBpmg2_115⟩, -⟩ := hBpmg.three
  go_wp2_with fail
  clear chBkxmr0
  clear chBkxmr1
  clear chBkxmr2
  clear chBkxms0
  clear chBkxms1
  clear chBkxms2
  clear pchBpmr0_111 pchBpmr1_111 pchBpmr2_111
  clear pchBpms0_112 pchBpms1_112 pchBpms2_112
  clear pchBpmt0_113 pchBpmt1_113 pchBpmt2_113
  clear pchBpmf0_114 pchBpmf1_114 pchBpmf2_114
  clear pchBpmg0_115 pchBpmg1_115 pchBpmg2_115
  refine (to_M hAmt hBmt).mono ?_
  rintro e w10 ⟨xmt, rfl, hXmt, hG10⟩
  have hs10 := hG10.size
  replace hAmr := hAmr.grow hG10
  replace hAms := hAms.grow hG10
  replace hAmt := hAmt.grow hG10
  replace hAmf := hAmf.grow hG10
  replace hAmg := hAmg.grow hG10
  replace hXmr := hXmr.grow hG10
  replace hXms := hXms.grow hG10
  replace hBkxmr := hBkxmr.grow hG10
  replace hBkxms := hBkxms.grow hG10
  replace hBpmr := hBpmr.grow hG10
  replace hBpms := hBpms.grow hG10
  replace hBpmt := hBpmt.grow hG10
  replace hBpmf := hBpmf.grow hG10
  replace hBpmg := hBpmg.grow hG10
  replace hT := hT.trans hG10
  clear hG10
  obtain ⟨xmta, xmtn, xmtc, rfl, hXmtx⟩ := hXmt
  replace hXmt : OM w10 (New w9 w10) (.agg #[.int .i64 (mt).rows, .int .i64 (mt).cols, .slice xmta xmtn xmtc]) mt := (show OM w10 (New _ w10) (.agg #[.int .i64 (mt).rows, .int .i64 (mt).cols, .slice xmta xmtn xmtc]) mt from ⟨_, _, _, rfl, hXmtx⟩).weak (fun b _ hb => ⟨Nat.le_trans hsa9 hb.1, hb.2⟩)
  clear hXmtx
  have hGa := (Grow.refl w10).alloc #[.int .i64 (mt).rows, .int .i64 (mt).cols, .slice xmta xmtn xmtc] 27
  have hBkxmt := Blk.newAt w10 #[.int .i64 (mt).rows, .int .i64 (mt).cols, .slice xmta xmtn xmtc] 27 rfl
  replace hAmr := hAmr.grow hGa
  replace hAms := hAms.grow hGa
  replace hAmt := hAmt.grow hGa
  replace hAmf := hAmf.grow hGa
  replace hAmg := hAmg.grow hGa
  replace hXmr := hXmr.grow hGa
  replace hXms := hXms.grow hGa
  replace hXmt := hXmt.grow hGa
  replace hBkxmr := hBkxmr.grow hGa
  replace hBkxms := hBkxms.grow hGa
  replace hBpmr := hBpmr.grow hGa
  replace hBpms := hBpms.grow hGa
  replace hBpmt := hBpmt.grow hGa
  replace hBpmf := hBpmf.grow hGa
  replace hBpmg := hBpmg.grow hGa
  replace hT := hT.trans hGa
  have hsa10 := hGa.size
  have hsb10 := hBkxmt.lt
  clear hGa
  obtain ⟨⟨chBkxmr0, chBkxmr1, chBkxmr2⟩, -⟩ := hBkxmr.three
  obtain ⟨⟨chBkxms0, chBkxms1, chBkxms2⟩, -⟩ := hBkxms.three
  obtain ⟨⟨chBkxmt0, chBkxmt1, chBkxmt2⟩, -⟩ := hBkxmt.three
  obtain ⟨⟨pchBpmr0_116, pchBpmr1_116, pchBpmr2_116⟩, -⟩ := hBpmr.three
  obtain ⟨⟨pchBpms0_117, pchBpms1_117, pchBpms2_117⟩, -⟩ := hBpms.three
  obtain ⟨⟨pchBpmt0_118, pchBpmt1_118, pchBpmt2_118⟩, -⟩ := hBpmt.three
  obtain ⟨⟨pchBpmf0_119, pchBpmf1_119, pchBpmf2_119⟩, -⟩ := hBpmf.three
  obtain ⟨⟨pchBpmg0_120, pchBpmg1_120, pchBpmg2_120⟩, -⟩ := hBpmg.three
  go_wp2_with fail
  clear chBkxmr0
  clear chBkxmr1
  clear chBkxmr2
  clear chBkxms0
  clear chBkxms1
  clear chBkxms2
  clear chBkxmt0
  clear chBkxmt1
  clear chBkxmt2
  clear pchBpmr0_116 pchBpmr1_116 pchBpmr2_116
  clear pchBpms0_117 pchBpms1_117 pchBpms2_117
  clear pchBpmt0_118 pchBpmt1_118 pchBpmt2_118
  clear pchBpmf0_119 pchBpmf1_119 pchBpmf2_119
  clear pchBpmg0_120 pchBpmg1_120 pchBpmg2_120
  refine (to_M hAmf hBmf).mono ?_
  rintro e w11 ⟨xmf, rfl, hXmf, hG11⟩
  have hs11 := hG11.size
  replace hAmr := hAmr.grow hG11
  replace hAms := hAms.grow hG11
  replace hAmt := hAmt.grow hG11
  replace hAmf := hAmf.grow hG11
  replace hAmg := hAmg.grow hG11
  replace hXmr := hXmr.grow hG11
  replace hXms := hXms.grow hG11
  replace hXmt := hXmt.grow hG11
  replace hBkxmr := hBkxmr.grow hG11
  replace hBkxms := hBkxms.grow hG11
  replace hBkxmt := hBkxmt.grow hG11
  replace hBpmr := hBpmr.grow hG11
  replace hBpms := hBpms.grow hG11
  replace hBpmt := hBpmt.grow hG11
  replace hBpmf := hBpmf.grow hG11
  replace hBpmg := hBpmg.grow hG11
  replace hT := hT.trans hG11
  clear hG11
  obtain ⟨xmfa, xmfn, xmfc, rfl, hXmfx⟩ := hXmf
  replace hXmf : OM w11 (New w10 w11) (.agg #[.int .i64 (mf).rows, .int .i64 (mf).cols, .slice xmfa xmfn xmfc]) mf := (show OM w11 (New _ w11) (.agg #[.int .i64 (mf).rows, .int .i64 (mf).cols, .slice xmfa xmfn xmfc]) mf from ⟨_, _, _, rfl, hXmfx⟩).weak (fun b _ hb => ⟨Nat.le_trans hsa10 hb.1, hb.2⟩)
  clear hXmfx
  have hGa := (Grow.refl w11).alloc #[.int .i64 (mf).rows, .int .i64 (mf).cols, .slice xmfa xmfn xmfc] 27
  have hBkxmf := Blk.newAt w11 #[.int .i64 (mf).rows, .int .i64 (mf).cols, .slice xmfa xmfn xmfc] 27 rfl
  replace hAmr := hAmr.grow hGa
  replace hAms := hAms.grow hGa
  replace hAmt := hAmt.grow hGa
  replace hAmf := hAmf.grow hGa
  replace hAmg := hAmg.grow hGa
  replace hXmr := hXmr.grow hGa
  replace hXms := hXms.grow hGa
  replace hXmt := hXmt.grow hGa
  replace hXmf := hXmf.grow hGa
  replace hBkxmr := hBkxmr.grow hGa
  replace hBkxms := hBkxms.grow hGa
  replace hBkxmt := hBkxmt.grow hGa
  replace hBpmr := hBpmr.grow hGa
  replace hBpms := hBpms.grow hGa
  replace hBpmt := hBpmt.grow hGa
  replace hBpmf := hBpmf.grow hGa
  replace hBpmg := hBpmg.grow hGa
  replace hT := hT.trans hGa
  have hsa11 := hGa.size
  have hsb11 := hBkxmf.lt
  clear hGa
  obtain ⟨⟨chBkxmr0, chBkxmr1, chBkxmr2⟩, -⟩ := hBkxmr.three
  obtain ⟨⟨chBkxms0, chBkxms1, chBkxms2⟩, -⟩ := hBkxms.three
  obtain ⟨⟨chBkxmt0, chBkxmt1, chBkxmt2⟩, -⟩ := hBkxmt.three
  obtain ⟨⟨chBkxmf0, chBkxmf1, chBkxmf2⟩, -⟩ := hBkxmf.three
  obtain ⟨⟨pchBpmr0_121, pchBpmr1_121, pchBpmr2_121⟩, -⟩ := hBpmr.three
  obtain ⟨⟨pchBpms0_122, pchBpms1_122, pchBpms2_122⟩, -⟩ := hBpms.three
  obtain ⟨⟨pchBpmt0_123, pchBpmt1_123, pchBpmt2_123⟩, -⟩ := hBpmt.three
  obtain ⟨⟨pchBpmf0_124, pchBpmf1_124, pchBpmf2_124⟩, -⟩ := hBpmf.three
  obtain ⟨⟨pchBpmg0_125, pchBpmg1_125, pchBpmg2_125⟩, -⟩ := hBpmg.three
  go_wp2_with fail
  clear chBkxmr0
  clear chBkxmr1
  clear chBkxmr2
  clear chBkxms0
  clear chBkxms1
  clear chBkxms2
  clear chBkxmt0
  clear chBkxmt1
  clear chBkxmt2
  clear chBkxmf0
  clear chBkxmf1
  clear chBkxmf2
  clear pchBpmr0_121 pchBpmr1_121 pchBpmr2_121
  clear pchBpms0_122 pchBpms1_122 pchBpms2_122
  clear pchBpmt0_123 pchBpmt1_123 pchBpmt2_123
  clear pchBpmf0_124 pchBpmf1_124 pchBpmf2_124
  clear pchBpmg0_125 pchBpmg1_125 pchBpmg2_125
  refine (to_M hAmg hBmg).mono ?_
  rintro e w12 ⟨xmg, rfl, hXmg, hG12⟩
  have hs12 := hG12.size
  replace hAmr := hAmr.grow hG12
  replace hAms := hAms.grow hG12
  replace hAmt := hAmt.grow hG12
  replace hAmf := hAmf.grow hG12
  replace hAmg := hAmg.grow hG12
  replace hXmr := hXmr.grow hG12
  replace hXms := hXms.grow hG12
  replace hXmt := hXmt.grow hG12
  replace hXmf := hXmf.grow hG12
  replace hBkxmr := hBkxmr.grow hG12
  replace hBkxms := hBkxms.grow hG12
  replace hBkxmt := hBkxmt.grow hG12
  replace hBkxmf := hBkxmf.grow hG12
  replace hBpmr := hBpmr.grow hG12
  replace hBpms := hBpms.grow hG12
  replace hBpmt := hBpmt.grow hG12
  replace hBpmf := hBpmf.grow hG12
  replace hBpmg := hBpmg.grow hG12
  replace hT := hT.trans hG12
  clear hG12
  obtain ⟨xmga, xmgn, xmgc, rfl, hXmgx⟩ := hXmg
  replace hXmg : OM w12 (New w11 w12) (.agg #[.int .i64 (mg).rows, .int .i64 (mg).cols, .slice xmga xmgn xmgc]) mg := (show OM w12 (New _ w12) (.agg #[.int .i64 (mg).rows, .int .i64 (mg).cols, .slice xmga xmgn xmgc]) mg from ⟨_, _, _, rfl, hXmgx⟩).weak (fun b _ hb => ⟨Nat.le_trans hsa11 hb.1, hb.2⟩)
  clear hXmgx
  have hGa := (Grow.refl w12).alloc #[.int .i64 (mg).rows, .int .i64 (mg).cols, .slice xmga xmgn xmgc] 27
  have hBkxmg := Blk.newAt w12 #[.int .i64 (mg).rows, .int .i64 (mg).cols, .slice xmga xmgn xmgc] 27 rfl
  replace hAmr := hAmr.grow hGa
  replace hAms := hAms.grow hGa
  replace hAmt := hAmt.grow hGa
  replace hAmf := hAmf.grow hGa
  replace hAmg := hAmg.grow hGa
  replace hXmr := hXmr.grow hGa
  replace hXms := hXms.grow hGa
  replace hXmt := hXmt.grow hGa
  replace hXmf := hXmf.grow hGa
  replace hXmg := hXmg.grow hGa
  replace hBkxmr := hBkxmr.grow hGa
  replace hBkxms := hBkxms.grow hGa
  replace hBkxmt := hBkxmt.grow hGa
  replace hBkxmf := hBkxmf.grow hGa
  replace hBpmr := hBpmr.grow hGa
  replace hBpms := hBpms.grow hGa
  replace hBpmt := hBpmt.grow hGa
  replace hBpmf := hBpmf.grow hGa
  replace hBpmg := hBpmg.grow hGa
  replace hT := hT.trans hGa
  have hsa12 := hGa.size
  have hsb12 := hBkxmg.lt
  clear hGa
  obtain ⟨⟨chBkxmr0, chBkxmr1, chBkxmr2⟩, -⟩ := hBkxmr.three
  obtain ⟨⟨chBkxms0, chBkxms1, chBkxms2⟩, -⟩ := hBkxms.three
  obtain ⟨⟨chBkxmt0, chBkxmt1, chBkxmt2⟩, -⟩ := hBkxmt.three
  obtain ⟨⟨chBkxmf0, chBkxmf1, chBkxmf2⟩, -⟩ := hBkxmf.three
  obtain ⟨⟨chBkxmg0, chBkxmg1, chBkxmg2⟩, -⟩ := hBkxmg.three
  obtain ⟨⟨pchBpmr0_126, pchBpmr1_126, pchBpmr2_126⟩, -⟩ := hBpmr.three
  obtain ⟨⟨pchBpms0_127, pchBpms1_127, pchBpms2_127⟩, -⟩ := hBpms.three
  obtain ⟨⟨pchBpmt0_128, pchBpmt1_128, pchBpmt2_128⟩, -⟩ := hBpmt.three
  obtain ⟨⟨pchBpmf0_129, pchBpmf1_129, pchBpmf2_129⟩, -⟩ := hBpmf.three
  obtain ⟨⟨pchBpmg0_130, pchBpmg1_130, pchBpmg2_130⟩, -⟩ := hBpmg.three
  go_wp2_with fail
  clear chBkxmr0
  clear chBkxmr1
  clear chBkxmr2
  clear chBkxms0
  clear chBkxms1
  clear chBkxms2
  clear chBkxmt0
  clear chBkxmt1
  clear chBkxmt2
  clear chBkxmf0
  clear chBkxmf1
  clear chBkxmf2
  clear chBkxmg0
  clear chBkxmg1
  clear chBkxmg2
  clear pchBpmr0_126 pchBpmr1_126 pchBpmr2_126
  clear pchBpms0_127 pchBpms1_127 pchBpms2_127
  clear pchBpmt0_128 pchBpmt1_128 pchBpmt2_128
  clear pchBpmf0_129 pchBpmf1_129 pchBpmf2_129
  clear pchBpmg0_130 pchBpmg1_130 pchBpmg2_130
  refine (implIsExactAt_v (hXmr.rd (S := fun _ => True) fun _ _ => trivial) hBmr (hXms.rd (S := fun _ => True) fun _ _ => trivial) hBms (hXmt.rd (S := fun _ => True) fun _ _ => trivial) hBmt (hXmf.rd (S := fun _ => True) fun _ _ => trivial) hBmf (hXmg.rd (S := fun _ => True) fun _ _ => trivial) hBmg).mono ?_
  rintro e w13 ⟨rfl, hG13⟩
  have hs13 := hG13.size
  replace hAmr := hAmr.grow hG13
  replace hAms := hAms.grow hG13
  replace hAmt := hAmt.grow hG13
  replace hAmf := hAmf.grow hG13
  replace hAmg := hAmg.grow hG13
  replace hXmr := hXmr.grow hG13
  replace hXms := hXms.grow hG13
  replace hXmt := hXmt.grow hG13
  replace hXmf := hXmf.grow hG13
  replace hXmg := hXmg.grow hG13
  replace hBkxmr := hBkxmr.grow hG13
  replace hBkxms := hBkxms.grow hG13
  replace hBkxmt := hBkxmt.grow hG13
  replace hBkxmf := hBkxmf.grow hG13
  replace hBkxmg := hBkxmg.grow hG13
  replace hBpmr := hBpmr.grow hG13
  replace hBpms := hBpms.grow hG13
  replace hBpmt := hBpmt.grow hG13
  replace hBpmf := hBpmf.grow hG13
  replace hBpmg := hBpmg.grow hG13
  replace hT := hT.trans hG13
  clear hG13
  obtain ⟨⟨chBkxmr0, chBkxmr1, chBkxmr2⟩, -⟩ := hBkxmr.three
  obtain ⟨⟨chBkxms0, chBkxms1, chBkxms2⟩, -⟩ := hBkxms.three
  obtain ⟨⟨chBkxmt0, chBkxmt1, chBkxmt2⟩, -⟩ := hBkxmt.three
  obtain ⟨⟨chBkxmf0, chBkxmf1, chBkxmf2⟩, -⟩ := hBkxmf.three
  obtain ⟨⟨chBkxmg0, chBkxmg1, chBkxmg2⟩, -⟩ := hBkxmg.three
  obtain ⟨⟨pchBpmr0_131, pchBpmr1_131, pchBpmr2_131⟩, -⟩ := hBpmr.three
  obtain ⟨⟨pchBpms0_132, pchBpms1_132, pchBpms2_132⟩, -⟩ := hBpms.three
  obtain ⟨⟨pchBpmt0_133, pchBpmt1_133, pchBpmt2_133⟩, -⟩ := hBpmt.three
  obtain ⟨⟨pchBpmf0_134, pchBpmf1_134, pchBpmf2_134⟩, -⟩ := hBpmf.three
  obtain ⟨⟨pchBpmg0_135, pchBpmg1_135, pchBpmg2_135⟩, -⟩ := hBpmg.three
  go_wp2_with fail
  clear chBkxmr0
  clear chBkxmr1
  clear chBkxmr2
  clear chBkxms0
  clear chBkxms1
  clear chBkxms2
  clear chBkxmt0
  clear chBkxmt1
  clear chBkxmt2
  clear chBkxmf0
  clear chBkxmf1
  clear chBkxmf2
  clear chBkxmg0
  clear chBkxmg1
  clear chBkxmg2
  clear pchBpmr0_131 pchBpmr1_131 pchBpmr2_131
  clear pchBpms0_132 pchBpms1_132 pchBpms2_132
  clear pchBpmt0_133 pchBpmt1_133 pchBpmt2_133
  clear pchBpmf0_134 pchBpmf1_134 pchBpmf2_134
  clear pchBpmg0_135 pchBpmg1_135 pchBpmg2_135
  refine wp_region_segs (S := Grow w13) [([0, 1], some 2), ([], some 3), ([4], none)] P_mixed (by kernel_rfl) (fun _ _ _ _ _ h => h) (Grow.refl _).drew ?_
  show wpQuiet _ _ _ _ [_, _] _
  repeat (first | go_big_quiet_skip | (go_big_quiet_want; first | (apply quiet_load3 T_mat; rfl; rfl; exact (fun w' hG => hBkxmr.grow hG); go_big_quiet_on; simp only [Act.put, List.setIfInBounds_toArray, List.set_cons_succ, List.set_cons_zero]) | (apply quiet_load3 T_lmat; rfl; rfl; exact (fun w' hG => hBpmr.grow hG); go_big_quiet_on; simp only [Act.put, List.setIfInBounds_toArray, List.set_cons_succ, List.set_cons_zero]) | (go_big_quiet_op; first | go_big_quiet_on | (refine ⟨_, (fun _ _ => rfl), ?_⟩; go_big_quiet_on))))
  refine wpQuiet_nil ?_
  generalize hwd : w13.drew = w14
  have hQ : Grow w13 w14 := by rw [← hwd]; exact (Grow.refl _).drew
  clear hwd
  have hs14 := hQ.size
  replace hAmr := hAmr.grow hQ
  replace hAms := hAms.grow hQ
  replace hAmt := hAmt.grow hQ
  replace hAmf := hAmf.grow hQ
  replace hAmg := hAmg.grow hQ
  replace hXmr := hXmr.grow hQ
  replace hXms := hXms.grow hQ
  replace hXmt := hXmt.grow hQ
  replace hXmf := hXmf.grow hQ
  replace hXmg := hXmg.grow hQ
  replace hBkxmr := hBkxmr.grow hQ
  replace hBkxms := hBkxms.grow hQ
  replace hBkxmt := hBkxmt.grow hQ
  replace hBkxmf := hBkxmf.grow hQ
  replace hBkxmg := hBkxmg.grow hQ
  replace hBpmr := hBpmr.grow hQ
  replace hBpms := hBpms.grow hQ
  replace hBpmt := hBpmt.grow hQ
  replace hBpmf := hBpmf.grow hQ
  replace hBpmg := hBpmg.grow hQ
  replace hT := hT.trans hQ
  refine seg_go rfl (fun K hK => ?_)
  go_wp2_with fail
  refine (to_M hAmr hBmr).mono ?_
  rintro e w15 ⟨tmr, rfl, hCmr, hG15⟩
  have hs15 := hG15.size
  replace hAmr := hAmr.grow hG15
  replace hAms := hAms.grow hG15
  replace hAmt := hAmt.grow hG15
  replace hAmf := hAmf.grow hG15
  replace hAmg := hAmg.grow hG15
  replace hXmr := hXmr.grow hG15
  replace hXms := hXms.grow hG15
  replace hXmt := hXmt.grow hG15
  replace hXmf := hXmf.grow hG15
  replace hXmg := hXmg.grow hG15
  replace hBkxmr := hBkxmr.grow hG15
  replace hBkxms := hBkxms.grow hG15
  replace hBkxmt := hBkxmt.grow hG15
  replace hBkxmf := hBkxmf.grow hG15
  replace hBkxmg := hBkxmg.grow hG15
  replace hBpmr := hBpmr.grow hG15
  replace hBpms := hBpms.grow hG15
  replace hBpmt := hBpmt.grow hG15
  replace hBpmf := hBpmf.grow hG15
  replace hBpmg := hBpmg.grow hG15
  replace hT := hT.trans hG15
  replace hQ := hQ.trans hG15
  clear hG15
  obtain ⟨tmra, tmrn, tmrc, rfl, hCmrx⟩ := hCmr
  replace hCmr : OM w15 (New w14 w15) (.agg #[.int .i64 (mr).rows, .int .i64 (mr).cols, .slice tmra tmrn tmrc]) mr := ⟨_, _, _, rfl, hCmrx⟩
  clear hCmrx
  go_wp2_with fail
  refine hK _ _ (hQ) ?_
  clear hK K
  show wpQuiet _ _ _ _ [] _
  try (conv => arg 6; simp only [Act.put, List.setIfInBounds_toArray, List.set_cons_succ, List.set_cons_zero])
  refine wpQuiet_nil ?_
  refine seg_go rfl (fun K hK => ?_)
  go_wp2_with fail
  refine (eq_M (hXmr.rd (S := fun _ => True) fun _ _ => trivial) (hCmr.rd (S := fun _ => True) fun _ _ => trivial) (by omega)).mono ?_
  rintro e w16 ⟨rfl, hG16⟩
  have hs16 := hG16.size
  replace hAmr := hAmr.grow hG16
  replace hAms := hAms.grow hG16
  replace hAmt := hAmt.grow hG16
  replace hAmf := hAmf.grow hG16
  replace hAmg := hAmg.grow hG16
  replace hXmr := hXmr.grow hG16
  replace hXms := hXms.grow hG16
  replace hXmt := hXmt.grow hG16
  replace hXmf := hXmf.grow hG16
  replace hXmg := hXmg.grow hG16
  replace hBkxmr := hBkxmr.grow hG16
  replace hBkxms := hBkxms.grow hG16
  replace hBkxmt := hBkxmt.grow hG16
  replace hBkxmf := hBkxmf.grow hG16
  replace hBkxmg := hBkxmg.grow hG16
  replace hBpmr := hBpmr.grow hG16
  replace hBpms := hBpms.grow hG16
  replace hBpmt := hBpmt.grow hG16
  replace hBpmf := hBpmf.grow hG16
  replace hBpmg := hBpmg.grow hG16
  replace hT := hT.trans hG16
  replace hQ := hQ.trans hG16
  clear hG16 hCmr
  go_wp2_with fail
  refine hK _ _ (hQ) ?_
  clear hK K
  show wpQuiet _ _ _ _ [_] _
  try (conv => arg 6; simp only [Act.put, List.setIfInBounds_toArray, List.set_cons_succ, List.set_cons_zero])
  repeat (first | go_big_quiet_skip | (go_big_quiet_want; first | (apply quiet_load3 T_mat; rfl; rfl; exact (fun w' hG => hBkxmr.grow hG); go_big_quiet_on; simp only [Act.put, List.setIfInBounds_toArray, List.set_cons_succ, List.set_cons_zero]) | (apply quiet_load3 T_lmat; rfl; rfl; exact (fun w' hG => hBpmr.grow hG); go_big_quiet_on; simp only [Act.put, List.setIfInBounds_toArray, List.set_cons_succ, List.set_cons_zero]) | (go_big_quiet_op; first | go_big_quiet_on | (refine ⟨_, (fun _ _ => rfl), ?_⟩; go_big_quiet_on))))
  refine wpQuiet_nil ?_
  clear hQ
  refine wpSegs_nil ?_
  obtain ⟨⟨chBkxmr0, chBkxmr1, chBkxmr2⟩, -⟩ := hBkxmr.three
  obtain ⟨⟨chBkxms0, chBkxms1, chBkxms2⟩, -⟩ := hBkxms.three
  obtain ⟨⟨chBkxmt0, chBkxmt1, chBkxmt2⟩, -⟩ := hBkxmt.three
  obtain ⟨⟨chBkxmf0, chBkxmf1, chBkxmf2⟩, -⟩ := hBkxmf.three
  obtain ⟨⟨chBkxmg0, chBkxmg1, chBkxmg2⟩, -⟩ := hBkxmg.three
  obtain ⟨⟨pchBpmr0_136, pchBpmr1_136, pchBpmr2_136⟩, -⟩ := hBpmr.three
  obtain ⟨⟨pchBpms0_137, pchBpms1_137, pchBpms2_137⟩, -⟩ := hBpms.three
  obtain ⟨⟨pchBpmt0_138, pchBpmt1_138, pchBpmt2_138⟩, -⟩ := hBpmt.three
  obtain ⟨⟨pchBpmf0_139, pchBpmf1_139, pchBpmf2_139⟩, -⟩ := hBpmf.three
  obtain ⟨⟨pchBpmg0_140, pchBpmg1_140, pchBpmg2_140⟩, -⟩ := hBpmg.three
  go_wp2_with fail
  clear chBkxmr0
  clear chBkxmr1
  clear chBkxmr2
  clear chBkxms0
  clear chBkxms1
  clear chBkxms2
  clear chBkxmt0
  clear chBkxmt1
  clear chBkxmt2
  clear chBkxmf0
  clear chBkxmf1
  clear chBkxmf2
  clear chBkxmg0
  clear chBkxmg1
  clear chBkxmg2
  clear pchBpmr0_136 pchBpmr1_136 pchBpmr2_136
  clear pchBpms0_137 pchBpms1_137 pchBpms2_137
  clear pchBpmt0_138 pchBpmt1_138 pchBpmt2_138
  clear pchBpmf0_139 pchBpmf1_139 pchBpmf2_139
  clear pchBpmg0_140 pchBpmg1_140 pchBpmg2_140
  refine wp_region_segs (S := Grow w16) [([0, 1], some 2), ([], some 3), ([4], none)] P_mixed (by kernel_rfl) (fun _ _ _ _ _ h => h) (Grow.refl _).drew ?_
  show wpQuiet _ _ _ _ [_, _] _
  repeat (first | go_big_quiet_skip | (go_big_quiet_want; first | (apply quiet_load3 T_mat; rfl; rfl; exact (fun w' hG => hBkxms.grow hG); go_big_quiet_on; simp only [Act.put, List.setIfInBounds_toArray, List.set_cons_succ, List.set_cons_zero]) | (apply quiet_load3 T_lmat; rfl; rfl; exact (fun w' hG => hBpms.grow hG); go_big_quiet_on; simp only [Act.put, List.setIfInBounds_toArray, List.set_cons_succ, List.set_cons_zero]) | (go_big_quiet_op; first | go_big_quiet_on | (refine ⟨_, (fun _ _ => rfl), ?_⟩; go_big_quiet_on))))
  refine wpQuiet_nil ?_
  generalize hwd : w16.drew = w17
  have hQ : Grow w16 w17 := by rw [← hwd]; exact (Grow.refl _).drew
  clear hwd
  have hs17 := hQ.size
  replace hAmr := hAmr.grow hQ
  replace hAms := hAms.grow hQ
  replace hAmt := hAmt.grow hQ
  replace hAmf := hAmf.grow hQ
  replace hAmg := hAmg.grow hQ
  replace hXmr := hXmr.grow hQ
  replace hXms := hXms.grow hQ
  replace hXmt := hXmt.grow hQ
  replace hXmf := hXmf.grow hQ
  replace hXmg := hXmg.grow hQ
  replace hBkxmr := hBkxmr.grow hQ
  replace hBkxms := hBkxms.grow hQ
  replace hBkxmt := hBkxmt.grow hQ
  replace hBkxmf := hBkxmf.grow hQ
  replace hBkxmg := hBkxmg.grow hQ
  replace hBpmr := hBpmr.grow hQ
  replace hBpms := hBpms.grow hQ
  replace hBpmt := hBpmt.grow hQ
  replace hBpmf := hBpmf.grow hQ
  replace hBpmg := hBpmg.grow hQ
  replace hT := hT.trans hQ
  refine seg_go rfl (fun K hK => ?_)
  go_wp2_with fail
  refine (to_M hAms hBms).mono ?_
  rintro e w18 ⟨tms, rfl, hCms, hG18⟩
  have hs18 := hG18.size
  replace hAmr := hAmr.grow hG18
  replace hAms := hAms.grow hG18
  replace hAmt := hAmt.grow hG18
  replace hAmf := hAmf.grow hG18
  replace hAmg := hAmg.grow hG18
  replace hXmr := hXmr.grow hG18
  replace hXms := hXms.grow hG18
  replace hXmt := hXmt.grow hG18
  replace hXmf := hXmf.grow hG18
  replace hXmg := hXmg.grow hG18
  replace hBkxmr := hBkxmr.grow hG18
  replace hBkxms := hBkxms.grow hG18
  replace hBkxmt := hBkxmt.grow hG18
  replace hBkxmf := hBkxmf.grow hG18
  replace hBkxmg := hBkxmg.grow hG18
  replace hBpmr := hBpmr.grow hG18
  replace hBpms := hBpms.grow hG18
  replace hBpmt := hBpmt.grow hG18
  replace hBpmf := hBpmf.grow hG18
  replace hBpmg := hBpmg.grow hG18
  replace hT := hT.trans hG18
  replace hQ := hQ.trans hG18
  clear hG18
  obtain ⟨tmsa, tmsn, tmsc, rfl, hCmsx⟩ := hCms
  replace hCms : OM w18 (New w17 w18) (.agg #[.int .i64 (ms).rows, .int .i64 (ms).cols, .slice tmsa tmsn tmsc]) ms := ⟨_, _, _, rfl, hCmsx⟩
  clear hCmsx
  go_wp2_with fail
  refine hK _ _ (hQ) ?_
  clear hK K
  show wpQuiet _ _ _ _ [] _
  try (conv => arg 6; simp only [Act.put, List.setIfInBounds_toArray, List.set_cons_succ, List.set_cons_zero])
  refine wpQuiet_nil ?_
  refine seg_go rfl (fun K hK => ?_)
  go_wp2_with fail
  refine (eq_M (hXms.rd (S := fun _ => True) fun _ _ => trivial) (hCms.rd (S := fun _ => True) fun _ _ => trivial) (by omega)).mono ?_
  rintro e w19 ⟨rfl, hG19⟩
  have hs19 := hG19.size
  replace hAmr := hAmr.grow hG19
  replace hAms := hAms.grow hG19
  replace hAmt := hAmt.grow hG19
  replace hAmf := hAmf.grow hG19
  replace hAmg := hAmg.grow hG19
  replace hXmr := hXmr.grow hG19
  replace hXms := hXms.grow hG19
  replace hXmt := hXmt.grow hG19
  replace hXmf := hXmf.grow hG19
  replace hXmg := hXmg.grow hG19
  replace hBkxmr := hBkxmr.grow hG19
  replace hBkxms := hBkxms.grow hG19
  replace hBkxmt := hBkxmt.grow hG19
  replace hBkxmf := hBkxmf.grow hG19
  replace hBkxmg := hBkxmg.grow hG19
  replace hBpmr := hBpmr.grow hG19
  replace hBpms := hBpms.grow hG19
  replace hBpmt := hBpmt.grow hG19
  replace hBpmf := hBpmf.grow hG19
  replace hBpmg := hBpmg.grow hG19
  replace hT := hT.trans hG19
  replace hQ := hQ.trans hG19
  clear hG19 hCms
  go_wp2_with fail
  refine hK _ _ (hQ) ?_
  clear hK K
  show wpQuiet _ _ _ _ [_] _
  try (conv => arg 6; simp only [Act.put, List.setIfInBounds_toArray, List.set_cons_succ, List.set_cons_zero])
  repeat (first | go_big_quiet_skip | (go_big_quiet_want; first | (apply quiet_load3 T_mat; rfl; rfl; exact (fun w' hG => hBkxms.grow hG); go_big_quiet_on; simp only [Act.put, List.setIfInBounds_toArray, List.set_cons_succ, List.set_cons_zero]) | (apply quiet_load3 T_lmat; rfl; rfl; exact (fun w' hG => hBpms.grow hG); go_big_quiet_on; simp only [Act.put, List.setIfInBounds_toArray, List.set_cons_succ, List.set_cons_zero]) | (go_big_quiet_op; first | go_big_quiet_on | (refine ⟨_, (fun _ _ => rfl), ?_⟩; go_big_quiet_on))))
  refine wpQuiet_nil ?_
  clear hQ
  refine wpSegs_nil ?_
  obtain ⟨⟨chBkxmr0, chBkxmr1, chBkxmr2⟩, -⟩ := hBkxmr.three
  obtain ⟨⟨chBkxms0, chBkxms1, chBkxms2⟩, -⟩ := hBkxms.three
  obtain ⟨⟨chBkxmt0, chBkxmt1, chBkxmt2⟩, -⟩ := hBkxmt.three
  obtain ⟨⟨chBkxmf0, chBkxmf1, chBkxmf2⟩, -⟩ := hBkxmf.three
  obtain ⟨⟨chBkxmg0, chBkxmg1, chBkxmg2⟩, -⟩ := hBkxmg.three
  obtain ⟨⟨pchBpmr0_141, pchBpmr1_141, pchBpmr2_141⟩, -⟩ := hBpmr.three
  obtain ⟨⟨pchBpms0_142, pchBpms1_142, pchBpms2_142⟩, -⟩ := hBpms.three
  obtain ⟨⟨pchBpmt0_143, pchBpmt1_143, pchBpmt2_143⟩, -⟩ := hBpmt.three
  obtain ⟨⟨pchBpmf0_144, pchBpmf1_144, pchBpmf2_144⟩, -⟩ := hBpmf.three
  obtain ⟨⟨pchBpmg0_145, pchBpmg1_145, pchBpmg2_145⟩, -⟩ := hBpmg.three
  go_wp2_with fail
  clear chBkxmr0
  clear chBkxmr1
  clear chBkxmr2
  clear chBkxms0
  clear chBkxms1
  clear chBkxms2
  clear chBkxmt0
  clear chBkxmt1
  clear chBkxmt2
  clear chBkxmf0
  clear chBkxmf1
  clear chBkxmf2
  clear chBkxmg0
  clear chBkxmg1
  clear chBkxmg2
  clear pchBpmr0_141 pchBpmr1_141 pchBpmr2_141
  clear pchBpms0_142 pchBpms1_142 pchBpms2_142
  clear pchBpmt0_143 pchBpmt1_143 pchBpmt2_143
  clear pchBpmf0_144 pchBpmf1_144 pchBpmf2_144
  clear pchBpmg0_145 pchBpmg1_145 pchBpmg2_145
  refine wp_region_segs (S := Grow w19) [([0, 1], some 2), ([], some 3), ([4], none)] P_mixed (by kernel_rfl) (fun _ _ _ _ _ h => h) (Grow.refl _).drew ?_
  show wpQuiet _ _ _ _ [_, _] _
  repeat (first | go_big_quiet_skip | (go_big_quiet_want; first | (apply quiet_load3 T_mat; rfl; rfl; exact (fun w' hG => hBkxmt.grow hG); go_big_quiet_on; simp only [Act.put, List.setIfInBounds_toArray, List.set_cons_succ, List.set_cons_zero]) | (apply quiet_load3 T_lmat; rfl; rfl; exact (fun w' hG => hBpmt.grow hG); go_big_quiet_on; simp only [Act.put, List.setIfInBounds_toArray, List.set_cons_succ, List.set_cons_zero]) | (go_big_quiet_op; first | go_big_quiet_on | (refine ⟨_, (fun _ _ => rfl), ?_⟩; go_big_quiet_on))))
  refine wpQuiet_nil ?_
  generalize hwd : w19.drew = w20
  have hQ : Grow w19 w20 := by rw [← hwd]; exact (Grow.refl _).drew
  clear hwd
  have hs20 := hQ.size
  replace hAmr := hAmr.grow hQ
  replace hAms := hAms.grow hQ
  replace hAmt := hAmt.grow hQ
  replace hAmf := hAmf.grow hQ
  replace hAmg := hAmg.grow hQ
  replace hXmr := hXmr.grow hQ
  replace hXms := hXms.grow hQ
  replace hXmt := hXmt.grow hQ
  replace hXmf := hXmf.grow hQ
  replace hXmg := hXmg.grow hQ
  replace hBkxmr := hBkxmr.grow hQ
  replace hBkxms := hBkxms.grow hQ
  replace hBkxmt := hBkxmt.grow hQ
  replace hBkxmf := hBkxmf.grow hQ
  replace hBkxmg := hBkxmg.grow hQ
  replace hBpmr := hBpmr.grow hQ
  replace hBpms := hBpms.grow hQ
  replace hBpmt := hBpmt.grow hQ
  replace hBpmf := hBpmf.grow hQ
  replace hBpmg := hBpmg.grow hQ
  replace hT := hT.trans hQ
  refine seg_go rfl (fun K hK => ?_)
  go_wp2_with fail
  refine (to_M hAmt hBmt).mono ?_
  rintro e w21 ⟨tmt, rfl, hCmt, hG21⟩
  have hs21 := hG21.size
  replace hAmr := hAmr.grow hG21
  replace hAms := hAms.grow hG21
  replace hAmt := hAmt.grow hG21
  replace hAmf := hAmf.grow hG21
  replace hAmg := hAmg.grow hG21
  replace hXmr := hXmr.grow hG21
  replace hXms := hXms.grow hG21
  replace hXmt := hXmt.grow hG21
  replace hXmf := hXmf.grow hG21
  replace hXmg := hXmg.grow hG21
  replace hBkxmr := hBkxmr.grow hG21
  replace hBkxms := hBkxms.grow hG21
  replace hBkxmt := hBkxmt.grow hG21
  replace hBkxmf := hBkxmf.grow hG21
  replace hBkxmg := hBkxmg.grow hG21
  replace hBpmr := hBpmr.grow hG21
  replace hBpms := hBpms.grow hG21
  replace hBpmt := hBpmt.grow hG21
  replace hBpmf := hBpmf.grow hG21
  replace hBpmg := hBpmg.grow hG21
  replace hT := hT.trans hG21
  replace hQ := hQ.trans hG21
  clear hG21
  obtain ⟨tmta, tmtn, tmtc, rfl, hCmtx⟩ := hCmt
  replace hCmt : OM w21 (New w20 w21) (.agg #[.int .i64 (mt).rows, .int .i64 (mt).cols, .slice tmta tmtn tmtc]) mt := ⟨_, _, _, rfl, hCmtx⟩
  clear hCmtx
  go_wp2_with fail
  refine hK _ _ (hQ) ?_
  clear hK K
  show wpQuiet _ _ _ _ [] _
  try (conv => arg 6; simp only [Act.put, List.setIfInBounds_toArray, List.set_cons_succ, List.set_cons_zero])
  refine wpQuiet_nil ?_
  refine seg_go rfl (fun K hK => ?_)
  go_wp2_with fail
  refine (eq_M (hXmt.rd (S := fun _ => True) fun _ _ => trivial) (hCmt.rd (S := fun _ => True) fun _ _ => trivial) (by omega)).mono ?_
  rintro e w22 ⟨rfl, hG22⟩
  have hs22 := hG22.size
  replace hAmr := hAmr.grow hG22
  replace hAms := hAms.grow hG22
  replace hAmt := hAmt.grow hG22
  replace hAmf := hAmf.grow hG22
  replace hAmg := hAmg.grow hG22
  replace hXmr := hXmr.grow hG22
  replace hXms := hXms.grow hG22
  replace hXmt := hXmt.grow hG22
  replace hXmf := hXmf.grow hG22
  replace hXmg := hXmg.grow hG22
  replace hBkxmr := hBkxmr.grow hG22
  replace hBkxms := hBkxms.grow hG22
  replace hBkxmt := hBkxmt.grow hG22
  replace hBkxmf := hBkxmf.grow hG22
  replace hBkxmg := hBkxmg.grow hG22
  replace hBpmr := hBpmr.grow hG22
  replace hBpms := hBpms.grow hG22
  replace hBpmt := hBpmt.grow hG22
  replace hBpmf := hBpmf.grow hG22
  replace hBpmg := hBpmg.grow hG22
  replace hT := hT.trans hG22
  replace hQ := hQ.trans hG22
  clear hG22 hCmt
  go_wp2_with fail
  refine hK _ _ (hQ) ?_
  clear hK K
  show wpQuiet _ _ _ _ [_] _
  try (conv => arg 6; simp only [Act.put, List.setIfInBounds_toArray, List.set_cons_succ, List.set_cons_zero])
  repeat (first | go_big_quiet_skip | (go_big_quiet_want; first | (apply quiet_load3 T_mat; rfl; rfl; exact (fun w' hG => hBkxmt.grow hG); go_big_quiet_on; simp only [Act.put, List.setIfInBounds_toArray, List.set_cons_succ, List.set_cons_zero]) | (apply quiet_load3 T_lmat; rfl; rfl; exact (fun w' hG => hBpmt.grow hG); go_big_quiet_on; simp only [Act.put, List.setIfInBounds_toArray, List.set_cons_succ, List.set_cons_zero]) | (go_big_quiet_op; first | go_big_quiet_on | (refine ⟨_, (fun _ _ => rfl), ?_⟩; go_big_quiet_on))))
  refine wpQuiet_nil ?_
  clear hQ
  refine wpSegs_nil ?_
  obtain ⟨⟨chBkxmr0, chBkxmr1, chBkxmr2⟩, -⟩ := hBkxmr.three
  obtain ⟨⟨chBkxms0, chBkxms1, chBkxms2⟩, -⟩ := hBkxms.three
  obtain ⟨⟨chBkxmt0, chBkxmt1, chBkxmt2⟩, -⟩ := hBkxmt.three
  obtain ⟨⟨chBkxmf0, chBkxmf1, chBkxmf2⟩, -⟩ := hBkxmf.three
  obtain ⟨⟨chBkxmg0, chBkxmg1, chBkxmg2⟩, -⟩ := hBkxmg.three
  obtain ⟨⟨pchBpmr0_146, pchBpmr1_146, pchBpmr2_146⟩, -⟩ := hBpmr.three
  obtain ⟨⟨pchBpms0_147, pchBpms1_147, pchBpms2_147⟩, -⟩ := hBpms.three
  obtain ⟨⟨pchBpmt0_148, pchBpmt1_148, pchBpmt2_148⟩, -⟩ := hBpmt.three
  obtain ⟨⟨pchBpmf0_149, pchBpmf1_149, pchBpmf2_149⟩, -⟩ := hBpmf.three
  obtain ⟨⟨pchBpmg0_150, pchBpmg1_150, pchBpmg2_150⟩, -⟩ := hBpmg.three
  go_wp2_with fail
  clear chBkxmr0
  clear chBkxmr1
  clear chBkxmr2
  clear chBkxms0
  clear chBkxms1
  clear chBkxms2
  clear chBkxmt0
  clear chBkxmt1
  clear chBkxmt2
  clear chBkxmf0
  clear chBkxmf1
  clear chBkxmf2
  clear chBkxmg0
  clear chBkxmg1
  clear chBkxmg2
  clear pchBpmr0_146 pchBpmr1_146 pchBpmr2_146
  clear pchBpms0_147 pchBpms1_147 pchBpms2_147
  clear pchBpmt0_148 pchBpmt1_148 pchBpmt2_148
  clear pchBpmf0_149 pchBpmf1_149 pchBpmf2_149
  clear pchBpmg0_150 pchBpmg1_150 pchBpmg2_150
  refine wp_region_segs (S := Grow w22) [([0, 1], some 2), ([], some 3), ([4], none)] P_mixed (by kernel_rfl) (fun _ _ _ _ _ h => h) (Grow.refl _).drew ?_
  show wpQuiet _ _ _ _ [_, _] _
  repeat (first | go_big_quiet_skip | (go_big_quiet_want; first | (apply quiet_load3 T_mat; rfl; rfl; exact (fun w' hG => hBkxmf.grow hG); go_big_quiet_on; simp only [Act.put, List.setIfInBounds_toArray, List.set_cons_succ, List.set_cons_zero]) | (apply quiet_load3 T_lmat; rfl; rfl; exact (fun w' hG => hBpmf.grow hG); go_big_quiet_on; simp only [Act.put, List.setIfInBounds_toArray, List.set_cons_succ, List.set_cons_zero]) | (go_big_quiet_op; first | go_big_quiet_on | (refine ⟨_, (fun _ _ => rfl), ?_⟩; go_big_quiet_on))))
  refine wpQuiet_nil ?_
  generalize hwd : w22.drew = w23
  have hQ : Grow w22 w23 := by rw [← hwd]; exact (Grow.refl _).drew
  clear hwd
  have hs23 := hQ.size
  replace hAmr := hAmr.grow hQ
  replace hAms := hAms.grow hQ
  replace hAmt := hAmt.grow hQ
  replace hAmf := hAmf.grow hQ
  replace hAmg := hAmg.grow hQ
  replace hXmr := hXmr.grow hQ
  replace hXms := hXms.grow hQ
  replace hXmt := hXmt.grow hQ
  replace hXmf := hXmf.grow hQ
  replace hXmg := hXmg.grow hQ
  replace hBkxmr := hBkxmr.grow hQ
  replace hBkxms := hBkxms.grow hQ
  replace hBkxmt := hBkxmt.grow hQ
  replace hBkxmf := hBkxmf.grow hQ
  replace hBkxmg := hBkxmg.grow hQ
  replace hBpmr := hBpmr.grow hQ
  replace hBpms := hBpms.grow hQ
  replace hBpmt := hBpmt.grow hQ
  replace hBpmf := hBpmf.grow hQ
  replace hBpmg := hBpmg.grow hQ
  replace hT := hT.trans hQ
  refine seg_go rfl (fun K hK => ?_)
  go_wp2_with fail
  refine (to_M hAmf hBmf).mono ?_
  rintro e w24 ⟨tmf, rfl, hCmf, hG24⟩
  have hs24 := hG24.size
  replace hAmr := hAmr.grow hG24
  replace hAms := hAms.grow hG24
  replace hAmt := hAmt.grow hG24
  replace hAmf := hAmf.grow hG24
  replace hAmg := hAmg.grow hG24
  replace hXmr := hXmr.grow hG24
  replace hXms := hXms.grow hG24
  replace hXmt := hXmt.grow hG24
  replace hXmf := hXmf.grow hG24
  replace hXmg := hXmg.grow hG24
  replace hBkxmr := hBkxmr.grow hG24
  replace hBkxms := hBkxms.grow hG24
  replace hBkxmt := hBkxmt.grow hG24
  replace hBkxmf := hBkxmf.grow hG24
  replace hBkxmg := hBkxmg.grow hG24
  replace hBpmr := hBpmr.grow hG24
  replace hBpms := hBpms.grow hG24
  replace hBpmt := hBpmt.grow hG24
  replace hBpmf := hBpmf.grow hG24
  replace hBpmg := hBpmg.grow hG24
  replace hT := hT.trans hG24
  replace hQ := hQ.trans hG24
  clear hG24
  obtain ⟨tmfa, tmfn, tmfc, rfl, hCmfx⟩ := hCmf
  replace hCmf : OM w24 (New w23 w24) (.agg #[.int .i64 (mf).rows, .int .i64 (mf).cols, .slice tmfa tmfn tmfc]) mf := ⟨_, _, _, rfl, hCmfx⟩
  clear hCmfx
  go_wp2_with fail
  refine hK _ _ (hQ) ?_
  clear hK K
  show wpQuiet _ _ _ _ [] _
  try (conv => arg 6; simp only [Act.put, List.setIfInBounds_toArray, List.set_cons_succ, List.set_cons_zero])
  refine wpQuiet_nil ?_
  refine seg_go rfl (fun K hK => ?_)
  go_wp2_with fail
  refine (eq_M (hXmf.rd (S := fun _ => True) fun _ _ => trivial) (hCmf.rd (S := fun _ => True) fun _ _ => trivial) (by omega)).mono ?_
  rintro e w25 ⟨rfl, hG25⟩
  have hs25 := hG25.size
  replace hAmr := hAmr.grow hG25
  replace hAms := hAms.grow hG25
  replace hAmt := hAmt.grow hG25
  replace hAmf := hAmf.grow hG25
  replace hAmg := hAmg.grow hG25
  replace hXmr := hXmr.grow hG25
  replace hXms := hXms.grow hG25
  replace hXmt := hXmt.grow hG25
  replace hXmf := hXmf.grow hG25
  replace hXmg := hXmg.grow hG25
  replace hBkxmr := hBkxmr.grow hG25
  replace hBkxms := hBkxms.grow hG25
  replace hBkxmt := hBkxmt.grow hG25
  replace hBkxmf := hBkxmf.grow hG25
  replace hBkxmg := hBkxmg.grow hG25
  replace hBpmr := hBpmr.grow hG25
  replace hBpms := hBpms.grow hG25
  replace hBpmt := hBpmt.grow hG25
  replace hBpmf := hBpmf.grow hG25
  replace hBpmg := hBpmg.grow hG25
  replace hT := hT.trans hG25
  replace hQ := hQ.trans hG25
  clear hG25 hCmf
  go_wp2_with fail
  refine hK _ _ (hQ) ?_
  clear hK K
  show wpQuiet _ _ _ _ [_] _
  try (conv => arg 6; simp only [Act.put, List.setIfInBounds_toArray, List.set_cons_succ, List.set_cons_zero])
  repeat (first | go_big_quiet_skip | (go_big_quiet_want; first | (apply quiet_load3 T_mat; rfl; rfl; exact (fun w' hG => hBkxmf.grow hG); go_big_quiet_on; simp only [Act.put, List.setIfInBounds_toArray, List.set_cons_succ, List.set_cons_zero]) | (apply quiet_load3 T_lmat; rfl; rfl; exact (fun w' hG => hBpmf.grow hG); go_big_quiet_on; simp only [Act.put, List.setIfInBounds_toArray, List.set_cons_succ, List.set_cons_zero]) | (go_big_quiet_op; first | go_big_quiet_on | (refine ⟨_, (fun _ _ => rfl), ?_⟩; go_big_quiet_on))))
  refine wpQuiet_nil ?_
  clear hQ
  refine wpSegs_nil ?_
  obtain ⟨⟨chBkxmr0, chBkxmr1, chBkxmr2⟩, -⟩ := hBkxmr.three
  obtain ⟨⟨chBkxms0, chBkxms1, chBkxms2⟩, -⟩ := hBkxms.three
  obtain ⟨⟨chBkxmt0, chBkxmt1, chBkxmt2⟩, -⟩ := hBkxmt.three
  obtain ⟨⟨chBkxmf0, chBkxmf1, chBkxmf2⟩, -⟩ := hBkxmf.three
  obtain ⟨⟨chBkxmg0, chBkxmg1, chBkxmg2⟩, -⟩ := hBkxmg.three
  obtain ⟨⟨pchBpmr0_151, pchBpmr1_151, pchBpmr2_151⟩, -⟩ := hBpmr.three
  obtain ⟨⟨pchBpms0_152, pchBpms1_152, pchBpms2_152⟩, -⟩ := hBpms.three
  obtain ⟨⟨pchBpmt0_153, pchBpmt1_153, pchBpmt2_153⟩, -⟩ := hBpmt.three
  obtain ⟨⟨pchBpmf0_154, pchBpmf1_154, pchBpmf2_154⟩, -⟩ := hBpmf.three
  obtain ⟨⟨pchBpmg0_155, pchBpmg1_155, pchBpmg2_155⟩, -⟩ := hBpmg.three
  go_wp2_with fail
  clear chBkxmr0
  clear chBkxmr1
  clear chBkxmr2
  clear chBkxms0
  clear chBkxms1
  clear chBkxms2
  clear chBkxmt0
  clear chBkxmt1
  clear chBkxmt2
  clear chBkxmf0
  clear chBkxmf1
  clear chBkxmf2
  clear chBkxmg0
  clear chBkxmg1
  clear chBkxmg2
  clear pchBpmr0_151 pchBpmr1_151 pchBpmr2_151
  clear pchBpms0_152 pchBpms1_152 pchBpms2_152
  clear pchBpmt0_153 pchBpmt1_153 pchBpmt2_153
  clear pchBpmf0_154 pchBpmf1_154 pchBpmf2_154
  clear pchBpmg0_155 pchBpmg1_155 pchBpmg2_155
  refine wp_region_segs (S := Grow w25) [([0, 1], some 2), ([], some 3), ([4], none)] P_mixed (by kernel_rfl) (fun _ _ _ _ _ h => h) (Grow.refl _).drew ?_
  show wpQuiet _ _ _ _ [_, _] _
  repeat (first | go_big_quiet_skip | (go_big_quiet_want; first | (apply quiet_load3 T_mat; rfl; rfl; exact (fun w' hG => hBkxmg.grow hG); go_big_quiet_on; simp only [Act.put, List.setIfInBounds_toArray, List.set_cons_succ, List.set_cons_zero]) | (apply quiet_load3 T_lmat; rfl; rfl; exact (fun w' hG => hBpmg.grow hG); go_big_quiet_on; simp only [Act.put, List.setIfInBounds_toArray, List.set_cons_succ, List.set_cons_zero]) | (go_big_quiet_op; first | go_big_quiet_on | (refine ⟨_, (fun _ _ => rfl), ?_⟩; go_big_quiet_on))))
  refine wpQuiet_nil ?_
  generalize hwd : w25.drew = w26
  have hQ : Grow w25 w26 := by rw [← hwd]; exact (Grow.refl _).drew
  clear hwd
  have hs26 := hQ.size
  replace hAmr := hAmr.grow hQ
  replace hAms := hAms.grow hQ
  replace hAmt := hAmt.grow hQ
  replace hAmf := hAmf.grow hQ
  replace hAmg := hAmg.grow hQ
  replace hXmr := hXmr.grow hQ
  replace hXms := hXms.grow hQ
  replace hXmt := hXmt.grow hQ
  replace hXmf := hXmf.grow hQ
  replace hXmg := hXmg.grow hQ
  replace hBkxmr := hBkxmr.grow hQ
  replace hBkxms := hBkxms.grow hQ
  replace hBkxmt := hBkxmt.grow hQ
  replace hBkxmf := hBkxmf.grow hQ
  replace hBkxmg := hBkxmg.grow hQ
  replace hBpmr := hBpmr.grow hQ
  replace hBpms := hBpms.grow hQ
  replace hBpmt := hBpmt.grow hQ
  replace hBpmf := hBpmf.grow hQ
  replace hBpmg := hBpmg.grow hQ
  replace hT := hT.trans hQ
  refine seg_go rfl (fun K hK => ?_)
  go_wp2_with fail
  refine (to_M hAmg hBmg).mono ?_
  rintro e w27 ⟨tmg, rfl, hCmg, hG27⟩
  have hs27 := hG27.size
  replace hAmr := hAmr.grow hG27
  replace hAms := hAms.grow hG27
  replace hAmt := hAmt.grow hG27
  replace hAmf := hAmf.grow hG27
  replace hAmg := hAmg.grow hG27
  replace hXmr := hXmr.grow hG27
  replace hXms := hXms.grow hG27
  replace hXmt := hXmt.grow hG27
  replace hXmf := hXmf.grow hG27
  replace hXmg := hXmg.grow hG27
  replace hBkxmr := hBkxmr.grow hG27
  replace hBkxms := hBkxms.grow hG27
  replace hBkxmt := hBkxmt.grow hG27
  replace hBkxmf := hBkxmf.grow hG27
  replace hBkxmg := hBkxmg.grow hG27
  replace hBpmr := hBpmr.grow hG27
  replace hBpms := hBpms.grow hG27
  replace hBpmt := hBpmt.grow hG27
  replace hBpmf := hBpmf.grow hG27
  replace hBpmg := hBpmg.grow hG27
  replace hT := hT.trans hG27
  replace hQ := hQ.trans hG27
  clear hG27
  obtain ⟨tmga, tmgn, tmgc, rfl, hCmgx⟩ := hCmg
  replace hCmg : OM w27 (New w26 w27) (.agg #[.int .i64 (mg).rows, .int .i64 (mg).cols, .slice tmga tmgn tmgc]) mg := ⟨_, _, _, rfl, hCmgx⟩
  clear hCmgx
  go_wp2_with fail
  refine hK _ _ (hQ) ?_
  clear hK K
  show wpQuiet _ _ _ _ [] _
  try (conv => arg 6; simp only [Act.put, List.setIfInBounds_toArray, List.set_cons_succ, List.set_cons_zero])
  refine wpQuiet_nil ?_
  refine seg_go rfl (fun K hK => ?_)
  go_wp2_with fail
  refine (eq_M (hXmg.rd (S := fun _ => True) fun _ _ => trivial) (hCmg.rd (S := fun _ => True) fun _ _ => trivial) (by omega)).mono ?_
  rintro e w28 ⟨rfl, hG28⟩
  have hs28 := hG28.size
  replace hAmr := hAmr.grow hG28
  replace hAms := hAms.grow hG28
  replace hAmt := hAmt.grow hG28
  replace hAmf := hAmf.grow hG28
  replace hAmg := hAmg.grow hG28
  replace hXmr := hXmr.grow hG28
  replace hXms := hXms.grow hG28
  replace hXmt := hXmt.grow hG28
  replace hXmf := hXmf.grow hG28
  replace hXmg := hXmg.grow hG28
  replace hBkxmr := hBkxmr.grow hG28
  replace hBkxms := hBkxms.grow hG28
  replace hBkxmt := hBkxmt.grow hG28
  replace hBkxmf := hBkxmf.grow hG28
  replace hBkxmg := hBkxmg.grow hG28
  replace hBpmr := hBpmr.grow hG28
  replace hBpms := hBpms.grow hG28
  replace hBpmt := hBpmt.grow hG28
  replace hBpmf := hBpmf.grow hG28
  replace hBpmg := hBpmg.grow hG28
  replace hT := hT.trans hG28
  replace hQ := hQ.trans hG28
  clear hG28 hCmg
  go_wp2_with fail
  refine hK _ _ (hQ) ?_
  clear hK K
  show wpQuiet _ _ _ _ [_] _
  try (conv => arg 6; simp only [Act.put, List.setIfInBounds_toArray, List.set_cons_succ, List.set_cons_zero])
  repeat (first | go_big_quiet_skip | (go_big_quiet_want; first | (apply quiet_load3 T_mat; rfl; rfl; exact (fun w' hG => hBkxmg.grow hG); go_big_quiet_on; simp only [Act.put, List.setIfInBounds_toArray, List.set_cons_succ, List.set_cons_zero]) | (apply quiet_load3 T_lmat; rfl; rfl; exact (fun w' hG => hBpmg.grow hG); go_big_quiet_on; simp only [Act.put, List.setIfInBounds_toArray, List.set_cons_succ, List.set_cons_zero]) | (go_big_quiet_op; first | go_big_quiet_on | (refine ⟨_, (fun _ _ => rfl), ?_⟩; go_big_quiet_on))))
  refine wpQuiet_nil ?_
  clear hQ
  refine wpSegs_nil ?_
  obtain ⟨⟨chBkxmr0, chBkxmr1, chBkxmr2⟩, -⟩ := hBkxmr.three
  obtain ⟨⟨chBkxms0, chBkxms1, chBkxms2⟩, -⟩ := hBkxms.three
  obtain ⟨⟨chBkxmt0, chBkxmt1, chBkxmt2⟩, -⟩ := hBkxmt.three
  obtain ⟨⟨chBkxmf0, chBkxmf1, chBkxmf2⟩, -⟩ := hBkxmf.three
  obtain ⟨⟨chBkxmg0, chBkxmg1, chBkxmg2⟩, -⟩ := hBkxmg.three
  obtain ⟨⟨pchBpmr0_156, pchBpmr1_156, pchBpmr2_156⟩, -⟩ := hBpmr.three
  obtain ⟨⟨pchBpms0_157, pchBpms1_157, pchBpms2_157⟩, -⟩ := hBpms.three
  obtain ⟨⟨pchBpmt0_158, pchBpmt1_158, pchBpmt2_158⟩, -⟩ := hBpmt.three
  obtain ⟨⟨pchBpmf0_159, pchBpmf1_159, pchBpmf2_159⟩, -⟩ := hBpmf.three
  obtain ⟨⟨pchBpmg0_160, pchBpmg1_160, pchBpmg2_160⟩, -⟩ := hBpmg.three
  go_wp2_with fail
  clear chBkxmr0
  clear chBkxmr1
  clear chBkxmr2
  clear chBkxms0
  clear chBkxms1
  clear chBkxms2
  clear chBkxmt0
  clear chBkxmt1
  clear chBkxmt2
  clear chBkxmf0
  clear chBkxmf1
  clear chBkxmf2
  clear chBkxmg0
  clear chBkxmg1
  clear chBkxmg2
  clear pchBpmr0_156 pchBpmr1_156 pchBpmr2_156
  clear pchBpms0_157 pchBpms1_157 pchBpms2_157
  clear pchBpmt0_158 pchBpmt1_158 pchBpmt2_158
  clear pchBpmf0_159 pchBpmf1_159 pchBpmf2_159
  clear pchBpmg0_160 pchBpmg1_160 pchBpmg2_160
  go_ret
  exact ⟨rfl, hT⟩
set_option maxRecDepth 100000 in
theorem lifted (os : Os) (started : os.Started) (H : Type) (enc : TypeId × Value → H) :
    ReturnsInHanded {} Try.checked os 6 .any (Rows.fnExactIsExactAtSpec.pre6 enc Try.prog Try.f6 Rows.fnExactIsExactAtRow.domain false) (Rows.fnExactIsExactAtSpec.post enc Try.prog Try.f6 false true false false) := by
  refine law_close (C := Try.checked) (tb := 4) P_own started (by kernel_rfl) Try.func6
    (ChangeSpec.witness6 (enc := enc) (C := Try.checked) false ⟨#[], #[.agg #[.int .i64 0, .int .i64 0, .slice none 0 0], .agg #[.int .i64 0, .int .i64 0, .slice none 0 0], .agg #[.int .i64 0, .int .i64 0, .slice none 0 0], .agg #[.int .i64 0, .int .i64 0, .slice none 0 0], .agg #[.int .i64 0, .int .i64 0, .slice none 0 0]], []⟩ 8 (by kernel_rfl) (by kernel_rfl) (by kernel_rfl) (by kernel_rfl))
    P_laid ?_ rfl Try.underlying4 rfl ?_ ?_
  · exact of_decide_eq_true (by kernel_rfl)
  · intro ds hds
    match ds, hds with
    | [d0, d1, d2, d3, d4], _ => rfl
  · intro W args ds ps hval0 hA0
    have hval : ∀ (j : Nat) t v, Try.f6.params[j]? = some t → args[j]? = some v → Value.okWide Try.prog W .any 0 t v := hval0
    have hA : DataW.TrodAll enc Try.prog W 0 (fun _ => true) true Try.f6.params.toList args.toList ds ps := hA0
    rw [Try.params6] at hA hval
    obtain ⟨v0, vs0, d0, ds0, p0, q0, hargs, rfl, rfl, h0, r0⟩ := trodAll_cons hA
    obtain ⟨v1, vs1, d1, ds1, p1, q1, rfl, rfl, rfl, h1, r1⟩ := trodAll_cons r0
    obtain ⟨v2, vs2, d2, ds2, p2, q2, rfl, rfl, rfl, h2, r2⟩ := trodAll_cons r1
    obtain ⟨v3, vs3, d3, ds3, p3, q3, rfl, rfl, rfl, h3, r3⟩ := trodAll_cons r2
    obtain ⟨v4, vs4, d4, ds4, p4, q4, rfl, rfl, rfl, h4, r4⟩ := trodAll_cons r3
    obtain ⟨rfl, rfl, rfl⟩ := trodAll_nil r4
    obtain rfl : args = #[v0, v1, v2, v3, v4] := by cases args; simp_all
    obtain ⟨x0, hx0⟩ := openMx (hval 0 24 v0 rfl rfl) h0
    obtain ⟨x1, hx1⟩ := openMx (hval 1 24 v1 rfl rfl) h1
    obtain ⟨x2, hx2⟩ := openMx (hval 2 24 v2 rfl rfl) h2
    obtain ⟨x3, hx3⟩ := openMx (hval 3 24 v3 rfl rfl) h3
    obtain ⟨x4, hx4⟩ := openMx (hval 4 24 v4 rfl rfl) h4
    exact walk _ x0 _ x1 _ x2 _ x3 _ x4 W hx0 hx1 hx2 hx3 hx4

theorem proved : Rows.FnExactIsExactAtSaid :=
  OpenClaim.holds_of_wide 6 Try.f6 rfl rfl rfl rfl rfl rfl rfl ⟨rfl, rfl, rfl, rfl, rfl⟩ rfl rfl rfl rfl rfl (by kernel_rfl) Try.func6 (by kernel_rfl)
    (of_decide_eq_true (by kernel_rfl)) (by unfold Func.isWrapper; first | (rw [if_pos (by decide +kernel)]; kernel_rfl) | (rw [if_neg (by decide +kernel)]; exact ⟨rfl, rfl⟩))
    (fun os started H enc _ => lifted os started H enc)
end Go.Proofs.Ythlncohllbmapaa.lawIsExactAt
