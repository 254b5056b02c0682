/-
  The law FnExactFormatDef returns true for all arguments: the program's FormatDef and the reference's return the same; arguments stay. The three listed tables of the library hold what the program's text lays.
-/
import Derived.Test.YtdnpdfokdibmdaaDoorCards
import Derived.Test.YtdnpdfokdibmdaaDoorTie
import Derived.Test.YtdnpdfokdibmdaaDoorZFmtE
import Derived.Test.YtdnpdfokdibmdaaDoorZCloseL
import Derived.Test.YtdnpdfokdibmdaaDoorZDefO
import Derived.Stop.LaidErr
namespace Go.Proofs.YtdnpdfokdibmdaaDoor
open Go.RowKit
theorem specFormatDef_v {S : Nat → Prop} {v : Value} {d : Dfn} {w : World} (h : VD w S v d) (hb : bdD d ≤ 1048576) :
    Calls Tryd.prog 6 #[v] w fun e w' => e = .returned (.string (bstr (fmtD d))) ∧ Grow w w' := sFormatDef_c h (by unfold bdD at hb; omega)
theorem implFormatDef_v {S : Nat → Prop} {v : Value} {d : Dfn} {w : World} (h : VD w S v d) (hb : bdD d ≤ 1048576) (ht : Tab w) :
    Calls Tryd.prog 8 #[v] w fun e w' => e = .returned (.string (bstr (fmtD d))) ∧ Grow w w' := iFormatDef_c h (by unfold bdD at hb; omega) ht
end Go.Proofs.YtdnpdfokdibmdaaDoor
namespace Go.Proofs.YtdnpdfokdibmdaaDoor.lawFormatDef
open Go.ChangeShapes Go.WideShapes Go.ChangeAt Go.RowKit

theorem table {W : World} (h : laidMetH Tryd.prog Rows.fnExactFormatDefRow.laid W) (_hS : W.ShapedOpen Tryd.prog) : Tab W := by
  have h2 : laidMet Tryd.prog Rows.fnExactFormatDefRow.laid W := h
  have h3 := h2.tail.tail
  exact Lib.tabIs_of_head (n := 20) (rest := []) (by kernel_rfl : Tryd.prog.globalNamed "internal/strconv.uint64pow10" = some 5) (by kernel_rfl) Tryd.underlying121 Tryd.underlying105 (by kernel_rfl) (by kernel_rfl) h3

set_option maxHeartbeats 16000000 in
set_option maxRecDepth 100000 in
theorem walk (dv : Value) (d : Dfn) (w : World) (hd0 : VD w (fun _ => True) dv d) (henv : Tab w) :
    Calls Tryd.prog 3 #[dv] w fun e w' => e = .returned (.bool true) ∧ Grow w w' := by
  have Henv := Lib.hid henv; clear henv
  have hs0 : w.heap.size ≤ w.heap.size := Nat.le_refl _
  have hAd : VD w (fun b => b < w.heap.size) dv d := hd0.weak fun _ hb _ => hb
  clear hd0
  have hq0d := hAd; obtain ⟨da, dn, dc, rfl, -⟩ := hq0d
  obtain ⟨wB, hwB⟩ : ∃ wB, wB = (w.alloc (.cells #[.string d.name, .int .i64 d.op, .string d.a, .string d.b, .int .i64 d.value.rows, .int .i64 d.value.cols, .slice da dn dc] 26)) := ⟨_, rfl⟩
  have hT : Grow w wB := by rw [hwB]; exact ((Grow.refl w).alloc _ _)
  have hBpd := Blk.newAt w #[.string d.name, .int .i64 d.op, .string d.a, .string d.b, .int .i64 d.value.rows, .int .i64 d.value.cols, .slice da dn dc] 26 (g := w.heap.size) (by simp)
  rw [← hwB] at hBpd
  have HwB := Lib.hid hwB; clear hwB
  have hsB := hT.size
  have hlthBpd := hBpd.lt
  replace hAd := hAd.grow hT
  by_cases hbd : szD 1048576 d < 0
  · skip
    go_enter Tryd.func3, Tryd.ntmps3
    go_wp2_with fail
    rw [← HwB.out]
    refine (sz_D hAd (by omega) (by omega)).mono ?_; rintro e wz0 ⟨rfl, hGz0⟩; have hsz0 := hGz0.size; replace hT := hT.trans hGz0; replace hAd := hAd.grow hGz0; replace hBpd := hBpd.grow hGz0; clear hGz0
    obtain ⟨⟨pchBpd0_1, pchBpd1_1, pchBpd2_1, pchBpd3_1, pchBpd4_1, pchBpd5_1, pchBpd6_1⟩, -⟩ := hBpd.seven
    go_wp2_with fail
    clear pchBpd0_1 pchBpd1_1 pchBpd2_1 pchBpd3_1 pchBpd4_1 pchBpd5_1 pchBpd6_1
    all_goals (go_ret; exact ⟨rfl, hT⟩)
  have hzd := sz_D_ok (l := d) (left := 1048576) (by omega)
  have hBd : bdD d ≤ 1048576 := by omega
  go_enter Tryd.func3, Tryd.ntmps3
  go_wp2_with fail
  rw [← HwB.out]
  refine (sz_D hAd (by omega) (by omega)).mono ?_; rintro e wz0 ⟨rfl, hGz0⟩; have hsz0 := hGz0.size; replace hT := hT.trans hGz0; replace hAd := hAd.grow hGz0; replace hBpd := hBpd.grow hGz0; clear hGz0
  obtain ⟨⟨pchBpd0_2, pchBpd1_2, pchBpd2_2, pchBpd3_2, pchBpd4_2, pchBpd5_2, pchBpd6_2⟩, -⟩ := hBpd.seven
  go_wp2_with fail
  clear pchBpd0_2 pchBpd1_2 pchBpd2_2 pchBpd3_2 pchBpd4_2 pchBpd5_2 pchBpd6_2
  refine (to_D hAd hBd).mono ?_
  rintro e w1 ⟨td, rfl, hCd, hG1⟩
  have hs1 := hG1.size
  replace hAd := hAd.grow hG1
  replace hBpd := hBpd.grow hG1
  replace hT := hT.trans hG1
  clear hG1
  obtain ⟨⟨pchBpd0_3, pchBpd1_3, pchBpd2_3, pchBpd3_3, pchBpd4_3, pchBpd5_3, pchBpd6_3⟩, -⟩ := hBpd.seven
  go_wp2_with fail
  clear pchBpd0_3 pchBpd1_3 pchBpd2_3 pchBpd3_3 pchBpd4_3 pchBpd5_3 pchBpd6_3
  refine (specFormatDef_v (hCd.rd (S := fun _ => True) fun _ _ => trivial) hBd).mono ?_
  rintro e w2 ⟨rfl, hG2⟩
  have hs2 := hG2.size
  replace hAd := hAd.grow hG2
  replace hBpd := hBpd.grow hG2
  replace hT := hT.trans hG2
  clear hG2
  clear hCd
  obtain ⟨⟨pchBpd0_4, pchBpd1_4, pchBpd2_4, pchBpd3_4, pchBpd4_4, pchBpd5_4, pchBpd6_4⟩, -⟩ := hBpd.seven
  go_wp2_with fail
  clear pchBpd0_4 pchBpd1_4 pchBpd2_4 pchBpd3_4 pchBpd4_4 pchBpd5_4 pchBpd6_4
  refine (to_D hAd hBd).mono ?_
  rintro e w3 ⟨xd, rfl, hXd, hG3⟩
  have hs3 := hG3.size
  replace hAd := hAd.grow hG3
  replace hBpd := hBpd.grow hG3
  replace hT := hT.trans hG3
  clear hG3
  obtain ⟨xda, xdn, xdc, rfl, hXdx⟩ := hXd
  replace hXd : OD w3 (New w2 w3) (.agg #[.string (d).name, .int .i64 (d).op, .string (d).a, .string (d).b, .int .i64 (d).value.rows, .int .i64 (d).value.cols, .slice xda xdn xdc]) d := ⟨_, _, _, rfl, hXdx⟩
  clear hXdx
  have hGa := (Grow.refl w3).alloc #[.string (d).name, .int .i64 (d).op, .string (d).a, .string (d).b, .int .i64 (d).value.rows, .int .i64 (d).value.cols, .slice xda xdn xdc] 31
  have hBkxd := Blk.newAt w3 #[.string (d).name, .int .i64 (d).op, .string (d).a, .string (d).b, .int .i64 (d).value.rows, .int .i64 (d).value.cols, .slice xda xdn xdc] 31 rfl
  replace hAd := hAd.grow hGa
  replace hXd := hXd.grow hGa
  replace hBpd := hBpd.grow hGa
  replace hT := hT.trans hGa
  have hsa3 := hGa.size
  have hsb3 := hBkxd.lt
  clear hGa
  obtain ⟨⟨chBkxd0, chBkxd1, chBkxd2, chBkxd3, chBkxd4, chBkxd5, chBkxd6⟩, -⟩ := hBkxd.seven
  obtain ⟨⟨pchBpd0_5, pchBpd1_5, pchBpd2_5, pchBpd3_5, pchBpd4_5, pchBpd5_5, pchBpd6_5⟩, -⟩ := hBpd.seven
  go_wp2_with fail
  clear chBkxd0
  clear chBkxd1
  clear chBkxd2
  clear chBkxd3
  clear chBkxd4
  clear chBkxd5
  clear chBkxd6
  clear pchBpd0_5 pchBpd1_5 pchBpd2_5 pchBpd3_5 pchBpd4_5 pchBpd5_5 pchBpd6_5
  refine (implFormatDef_v (hXd.rd (S := fun _ => True) fun _ _ => trivial) hBd (Henv.out.grow hT)).mono ?_
  rintro e w4 ⟨rfl, hG4⟩
  have hs4 := hG4.size
  replace hAd := hAd.grow hG4
  replace hXd := hXd.grow hG4
  replace hBkxd := hBkxd.grow hG4
  replace hBpd := hBpd.grow hG4
  replace hT := hT.trans hG4
  clear hG4
  obtain ⟨⟨chBkxd0, chBkxd1, chBkxd2, chBkxd3, chBkxd4, chBkxd5, chBkxd6⟩, -⟩ := hBkxd.seven
  obtain ⟨⟨pchBpd0_6, pchBpd1_6, pchBpd2_6, pchBpd3_6, pchBpd4_6, pchBpd5_6, pchBpd6_6⟩, -⟩ := hBpd.seven
  go_wp2_with fail
  clear chBkxd0
  clear chBkxd1
  clear chBkxd2
  clear chBkxd3
  clear chBkxd4
  clear chBkxd5
  clear chBkxd6
  clear pchBpd0_6 pchBpd1_6 pchBpd2_6 pchBpd3_6 pchBpd4_6 pchBpd5_6 pchBpd6_6
  refine wp_region_segs (S := Grow w4) [([0, 1], some 2), ([], some 3), ([4], none)] P_mixed (by kernel_rfl) (fun _ _ _ _ _ h => h) (Grow.refl _).drew ?_
  show wpQuiet _ _ _ _ [_, _] _
  repeat (first | go_big_quiet_skip | (go_big_quiet_want; first | (apply quiet_load7 (d := d) (s := .slice xda xdn xdc) T_def; rfl; rfl; exact (fun w' hG => DAt.of_blk (hBkxd.grow hG)); go_big_quiet_on; simp only [Act.put, List.setIfInBounds_toArray, List.set_cons_succ, List.set_cons_zero]) | (apply quiet_load7 (d := d) (s := .slice da dn dc) T_ldef; rfl; rfl; exact (fun w' hG => DAt.of_blk (hBpd.grow hG)); go_big_quiet_on; simp only [Act.put, List.setIfInBounds_toArray, List.set_cons_succ, List.set_cons_zero]) | (go_big_quiet_op; first | go_big_quiet_on | (refine ⟨_, (fun _ _ => rfl), ?_⟩; go_big_quiet_on))))
  refine wpQuiet_nil ?_
  generalize hwd : w4.drew = w5
  have hQ : Grow w4 w5 := by rw [← hwd]; exact (Grow.refl _).drew
  clear hwd
  have hs5 := hQ.size
  replace hAd := hAd.grow hQ
  replace hXd := hXd.grow hQ
  replace hBkxd := hBkxd.grow hQ
  replace hBpd := hBpd.grow hQ
  replace hT := hT.trans hQ
  refine seg_go rfl (fun K hK => ?_)
  go_wp2_with fail
  refine (to_D hAd hBd).mono ?_
  rintro e w6 ⟨td, rfl, hCd, hG6⟩
  have hs6 := hG6.size
  replace hAd := hAd.grow hG6
  replace hXd := hXd.grow hG6
  replace hBkxd := hBkxd.grow hG6
  replace hBpd := hBpd.grow hG6
  replace hT := hT.trans hG6
  replace hQ := hQ.trans hG6
  clear hG6
  obtain ⟨tda, tdn, tdc, rfl, hCdx⟩ := hCd
  replace hCd : OD w6 (New w5 w6) (.agg #[.string (d).name, .int .i64 (d).op, .string (d).a, .string (d).b, .int .i64 (d).value.rows, .int .i64 (d).value.cols, .slice tda tdn tdc]) d := ⟨_, _, _, rfl, hCdx⟩
  clear hCdx
  go_wp2_with fail
  refine hK _ _ (hQ) ?_
  clear hK K
  show wpQuiet _ _ _ _ [] _
  try (conv => arg 6; simp only [Act.put, List.setIfInBounds_toArray, List.set_cons_succ, List.set_cons_zero])
  refine wpQuiet_nil ?_
  refine seg_go rfl (fun K hK => ?_)
  go_wp2_with fail
  refine (eq_D (hXd.rd (S := fun _ => True) fun _ _ => trivial) (hCd.rd (S := fun _ => True) fun _ _ => trivial) (by omega)).mono ?_
  rintro e w7 ⟨rfl, hG7⟩
  have hs7 := hG7.size
  replace hAd := hAd.grow hG7
  replace hXd := hXd.grow hG7
  replace hBkxd := hBkxd.grow hG7
  replace hBpd := hBpd.grow hG7
  replace hT := hT.trans hG7
  replace hQ := hQ.trans hG7
  clear hG7 hCd
  go_wp2_with fail
  refine hK _ _ (hQ) ?_
  clear hK K
  show wpQuiet _ _ _ _ [_] _
  try (conv => arg 6; simp only [Act.put, List.setIfInBounds_toArray, List.set_cons_succ, List.set_cons_zero])
  repeat (first | go_big_quiet_skip | (go_big_quiet_want; first | (apply quiet_load7 (d := d) (s := .slice xda xdn xdc) T_def; rfl; rfl; exact (fun w' hG => DAt.of_blk (hBkxd.grow hG)); go_big_quiet_on; simp only [Act.put, List.setIfInBounds_toArray, List.set_cons_succ, List.set_cons_zero]) | (apply quiet_load7 (d := d) (s := .slice da dn dc) T_ldef; rfl; rfl; exact (fun w' hG => DAt.of_blk (hBpd.grow hG)); go_big_quiet_on; simp only [Act.put, List.setIfInBounds_toArray, List.set_cons_succ, List.set_cons_zero]) | (go_big_quiet_op; first | go_big_quiet_on | (refine ⟨_, (fun _ _ => rfl), ?_⟩; go_big_quiet_on))))
  refine wpQuiet_nil ?_
  clear hQ
  refine wpSegs_nil ?_
  obtain ⟨⟨chBkxd0, chBkxd1, chBkxd2, chBkxd3, chBkxd4, chBkxd5, chBkxd6⟩, -⟩ := hBkxd.seven
  obtain ⟨⟨pchBpd0_7, pchBpd1_7, pchBpd2_7, pchBpd3_7, pchBpd4_7, pchBpd5_7, pchBpd6_7⟩, -⟩ := hBpd.seven
  go_wp2_with fail
  clear chBkxd0
  clear chBkxd1
  clear chBkxd2
  clear chBkxd3
  clear chBkxd4
  clear chBkxd5
  clear chBkxd6
  clear pchBpd0_7 pchBpd1_7 pchBpd2_7 pchBpd3_7 pchBpd4_7 pchBpd5_7 pchBpd6_7
  go_ret
  exact ⟨rfl, hT⟩
set_option maxRecDepth 100000 in
theorem contract (H : Type) (enc : TypeId × Value → H) (W : World) (base : Nat) (args : Array Value) (ds gs : List (DataW H)) (before : List MemPlace)
    (hval : ∀ (j : Nat) t v, Tryd.f3.params[j]? = some t → args[j]? = some v → Value.okWide Tryd.prog W .any base t v)
    (hW : DataW.Whole enc Tryd.prog Tryd.f3.params.toList Rows.fnExactFormatDefSpec.vars false W args.toList ds gs before) (hL : laidMetH Tryd.prog Rows.fnExactFormatDefRow.laid W) (hS : W.ShapedOpen Tryd.prog) :
    Calls Tryd.prog 3 args W fun e W' => ∃ v, e = .returned v ∧ Rows.fnExactFormatDefSpec.post enc Tryd.prog Tryd.f3 false true false false W args v W' := by
  refine law_calls P_laid ?_ rfl Tryd.underlying4 rfl ?_ hval hW ?_
  · exact of_decide_eq_true (by kernel_rfl)
  · intro ds hds
    match ds, hds with
    | [d0], _ => rfl
  · intro ps hval0 hA0
    clear hval hW
    have hval : ∀ (j : Nat) t v, Tryd.f3.params[j]? = some t → args[j]? = some v → Value.okWide Tryd.prog W .any 0 t v := hval0
    have hA : DataW.TrodAll enc Tryd.prog W 0 (fun _ => true) true Tryd.f3.params.toList args.toList ds ps := hA0
    rw [Tryd.params3] at hA hval
    obtain ⟨v0, vs0, d0, ds0, p0, q0, hargs, rfl, rfl, h0, r0⟩ := trodAll_cons hA
    obtain ⟨rfl, rfl, rfl⟩ := trodAll_nil r0
    obtain rfl : args = #[v0] := by cases args; simp_all
    obtain ⟨x0, hx0⟩ := openDx (hval 0 26 v0 rfl rfl) h0
    exact walk _ x0 W hx0 (table hL hS)
set_option maxRecDepth 100000 in
theorem laid_met (os : Os) : laidMetH Tryd.prog Rows.fnExactFormatDefRow.laid ((World.doorLaid Tryd.prog 400 os).forCall (fun _ _ => 0) ⟨#[], #[.agg #[.string .empty, .int .i64 0, .string .empty, .string .empty, .int .i64 0, .int .i64 0, .slice none 0 0]], []⟩).memory :=
  laidMetH_of_parts3 (fuel := 8) (laidMet_of_run' 8 (by kernel_rfl) (by kernel_rfl)) (by kernel_rfl) (by kernel_rfl)
set_option maxRecDepth 100000 in
theorem reads (os : Os) {H : Type} (enc : TypeId × Value → H) : ∃ places, DataW.whole enc Tryd.prog ((World.doorLaid Tryd.prog 400 os).forCall (fun _ _ => 0) ⟨#[], #[.agg #[.string .empty, .int .i64 0, .string .empty, .string .empty, .int .i64 0, .int .i64 0, .slice none 0 0]], []⟩).memory Tryd.f3.params.toList Rows.fnExactFormatDefSpec.vars false (#[.agg #[.string .empty, .int .i64 0, .string .empty, .string .empty, .int .i64 0, .int .i64 0, .slice none 0 0]] : Array Value).toList 8 = some ([.agg [.lit (.string []), .lit (.int .i64 0), .lit (.string []), .lit (.string []), .agg [.lit (.int .i64 0), .lit (.int .i64 0), .nil]]], [], places) :=
  ⟨[], by kernel_rfl⟩
set_option maxRecDepth 100000 in
theorem lifted (os : Os) (started : os.Started) (H : Type) (enc : TypeId × Value → H) (F : Stop.Interp) :
    ReturnsInHanded {} Tryd.checked os 3 .any ((OpenSpec.ofChange Rows.fnExactFormatDefSpec).preRow enc Tryd.prog Tryd.f3 Rows.fnExactFormatDefRow.domain false Rows.fnExactFormatDefRow.laid) (((OpenSpec.ofChange Rows.fnExactFormatDefSpec).at F).post enc Tryd.prog Tryd.f3 false true false false) := by
  obtain ⟨places, hx⟩ := reads os enc
  refine returnsInHanded_of_row (C := Tryd.checked) (s := OpenSpec.ofChange Rows.fnExactFormatDefSpec) P_own started (by kernel_rfl) Tryd.func3
    (witness_row_atRef (enc := enc) (C := Tryd.checked) false (World.doorLaid Tryd.prog 400 os) #[.agg #[.string .empty, .int .i64 0, .string .empty, .string .empty, .int .i64 0, .int .i64 0, .slice none 0 0]] rfl (by kernel_rfl) (by kernel_rfl) (by kernel_rfl)
      (OpenSpec.preRow_of_cond 8 hx (by kernel_rfl) (fun k hk => by cases hk) (by kernel_rfl) (laid_met os))) ?_
  intro W base args ds gs before hval hW _ _ _ hL hS _
  exact contract H enc W base args ds gs before hval hW hL hS
theorem said : Rows.FnExactFormatDefSaid :=
  OpenClaim.holds_of_cond 3 Tryd.f3 rfl rfl rfl rfl rfl rfl rfl ⟨rfl, rfl, rfl, rfl, rfl⟩ rfl rfl rfl rfl rfl (by kernel_rfl) Tryd.func3 (by kernel_rfl)
    (of_decide_eq_true (by kernel_rfl)) (by unfold Func.isWrapper; first | (rw [if_pos (by decide +kernel)]; kernel_rfl) | (rw [if_neg (by decide +kernel)]; exact ⟨rfl, rfl⟩))
    (fun os started H enc _ F => by rw [OpenClaim.pre_eq_preRow]; exact lifted os started H enc F)
theorem plain (f : FuncId) (fn : Func) (hf : Tryd.pinned.checked.prog.funcNamed Tryd.f3.name = some f) (hfn : Tryd.pinned.checked.prog.funcs[f]? = some fn) :
    true = Tryd.pinned.checked.prog.looks [] ∧ ∀ (j : Nat) t, fn.params[j]? = some t → Tryd.pinned.checked.prog.wantsStandIn t = false := by
  obtain rfl : f = 3 := Option.some.inj ((show Tryd.prog.funcNamed Tryd.f3.name = some 3 by kernel_rfl).symm.trans hf) |>.symm
  obtain rfl : fn = Tryd.f3 := (Option.some.inj (Tryd.func3.symm.trans hfn)).symm
  refine ⟨by kernel_rfl, fun j t ht => ?_⟩
  rw [Tryd.params3] at ht
  have hm : t ∈ [26] := by simpa using Array.mem_of_getElem? ht
  have hall : ([26].all fun u => !Tryd.prog.wantsStandIn u) = true := by kernel_rfl
  exact (show Tryd.prog.wantsStandIn t = false by simpa using List.all_eq_true.1 hall t hm)
theorem proved : Rows.FnExactFormatDefCardSaid :=
  Claim7.holds_tied_plain_at .later [] _ _ _ _ said (fun _ h => by cases h) (by kernel_rfl) (fun _ h => by cases h) fnExactFormatDef_row_tie rfl ⟨rfl, rfl⟩ (by kernel_rfl) rfl plain (by kernel_rfl)
end Go.Proofs.YtdnpdfokdibmdaaDoor.lawFormatDef
