/-
  The law FnForwards returns true for all arguments: the order of the definitions of a sheet makes no difference. No condition.
-/
import Derived.Test.YtgeoehnbpkediaaZDrawSh
import Derived.Test.YtgeoehnbpkediaaZSheet
set_option maxHeartbeats 8000000
set_option maxRecDepth 100000
namespace Go.Proofs.Ytgeoehnbpkediaa.lawFnForwards
open Go.ChangeShapes Go.WideShapes Go.ChangeAt Go.RowKit
theorem cells_u8 : Try.prog.cellsOf 5 = 1 := by kernel_rfl
theorem big_c (a : Option Addr) (n cap : Nat) (w : World) (b : Bool) (hb : decide (1048576 < n) = b) :
  Calls Try.prog 4 #[.slice a n cap] w fun e w' => e = .returned (.bool b) ∧ w = w' := by
 cases b with
 | true =>
  have h := of_decide_eq_true hb
  go_enter Try.func4, Try.ntmps4
  go_wp2
  go_ret
  exact ⟨ret_bool (by simp; omega), rfl⟩
 | false =>
  have h := of_decide_eq_false hb
  go_enter Try.func4, Try.ntmps4
  go_wp2
  go_ret
  exact ⟨ret_bool (by simp; omega), rfl⟩
theorem walk (a : Option Addr) (n cap : Nat) (bs : List Int) (w : World) (h : RdB w (fun _ => True) a n cap bs) :
  Calls Try.prog 3 #[.slice a n cap] w fun e w' => e = .returned (.bool true) ∧ Grow w w' := by
 by_cases hbig : 1048576 < n
 ·go_enter Try.func3, Try.ntmps3
  go_wp2_with fail
  refine (big_c a n cap _ true (decide_eq_true hbig)).mono ?_
  rintro e _ ⟨rfl, rfl⟩
  go_wp2
  go_ret
  exact ⟨rfl, Grow.refl _⟩
 have hbg := decide_eq_false hbig
 go_enter Try.func3, Try.ntmps3
 go_wp2_with fail
 refine (big_c a n cap _ false hbg).mono ?_
 rintro e _ ⟨rfl, rfl⟩
 clear hbg
 go_wp2_with fail
 refine (DrawEvaluateSheet_c a n cap bs _ h (by omega)).mono ?_
 rintro e w1 ⟨la, m, lc, l, rfl, hR, hb, hG1⟩
 have hl := hR.len
 obtain ⟨hm, hcl⟩ := bdDD_sheet hb
 rw [hl] at hm
 have hrz := hR.weak (T := fun q => q < w1.heap.size) fun q hlt _ => hlt
 have HB := Lib.hid (And.intro hcl hb)
 have Hl := Lib.hid hl
 clear hb hcl hl
 have hB0 := Back.new (w := w1) (z := w1.heap.size) (cs := #[]) rfl rfl (Nat.le_refl _)
 go_wp2_with fail
 go_loopw [4, 5] (fun v i wr => ∃ (x : Int) (j k c1 : Nat) (a1 : Option Addr), i = .int .i64 x ∧ x = (j : Int) - 1 ∧ v = .slice a1 k c1 ∧ j + k = m ∧ Back wr w1.heap.size a1 k c1 (l.reverse.take k) ∧ Grow w1 wr) (fun _ i _ => (intOf i + 1).toNat)
 case atStart => exact ⟨_, m, 0, 0, _, rfl, rfl, rfl, rfl, hB0, (Grow.refl _).alloc _ _⟩
 case round =>
  obtain ⟨x, j, k, c1, a1, rfl, hx, rfl, hjk, hBk, hG⟩ := hrel
  have hsz := hG.size
  by_cases hj : 0 < j
  ·obtain ⟨i, rfl⟩ : ∃ i, j = i + 1 := ⟨j - 1, by omega⟩
   obtain rfl : x = (i : Int) := by omega
   obtain ⟨b, off, d, xa, xc, rfl, hd, _, hbw, ⟨e0, e1, e2, e3, e4, e5, e6⟩, r1, ho⟩ := (hrz.grow hG).at (k := i) (by omega)
   have htk : l.reverse.take (k + 1) = l.reverse.take k ++ [d] := take_succ (by rw [List.getElem?_reverse (by rw [Hl.out]; omega), Hl.out]; rw [show m - 1 - k = i by omega]; exact hd)
   obtain ⟨⟨ss, hss, hO, hC⟩, hlk, hok, hlo⟩ := hBk
   have Htk := Lib.hid htk
   clear htk hd hB0 hR h hx
   go_wp2_with (at_builtin; refine wpList_app rfl (.tmp 21) (.tmp 26) _ rfl T_defs rfl (hO.grow ((Grow.refl _).alloc _ _)) rfl (Row.builtAt (S := fun _ => True) 1 rfl (by unfold maxLen; omega) rfl fun _ => trivial) (by simp [Value.oneCell']) (by omega) (by unfold maxLen; omega) ?_; intro a9 c9 w9 hA9)
   have hGa := (Grow.refl wr).alloc #[.string d.name, .int .i64 d.op, .string d.a, .string d.b, .int .i64 d.value.rows, .int .i64 d.value.cols, .slice xa d.value.cells.length xc] 30
   have hB9 := Back.app (z := w1.heap.size) hss hlk hok hlo (hC.keep hGa fun _ _ _ => trivial) (r1.grow hGa) ho (by have := hGa.size; omega) hA9
   rw [← Htk.out] at hB9
   have hG9 := hA9.grow (hG.trans hGa) hlo
   clear hA9 hO hC
   go_wp2_with fail
   go_roundw
   case rel => exact ⟨_, i, k + 1, c9, a9, rfl, rfl, rfl, by omega, hB9, hG9⟩
   case measure => simp [intOf]
  ·obtain rfl : j = 0 := by omega
   have hx0 : x < 0 := by omega
   obtain rfl : k = m := by omega
   rw [List.take_of_length_le (by rw [List.length_reverse, Hl.out]; exact Nat.le_refl _)] at hBk
   have hRr := hR.grow hG
   clear hx hR hrz hB0
   have hcr : ∀ d ∈ l.reverse, d.value.cells.length ≤ 2097152 := fun d hd => by have := HB.out.1 d (List.mem_reverse.1 hd); omega
   have hcl : ∀ d ∈ l, d.value.cells.length ≤ 2097152 := fun d hd => by have := HB.out.1 d hd; omega
   have HCr := Lib.hid hcr
   have HCl := Lib.hid hcl
   clear hcr hcl h
   go_wp2_with fail
   refine (iEval_c hRr (by omega) HCl.out).mono ?_
   rintro e w2 ⟨ea, ec, rfl, hE, hG2, hEb⟩
   have HEb := Lib.hid hEb
   clear hEb
   go_wp2_with fail
   refine (iEval_c (hBk.rd.grow hG2) (by omega) HCr.out).mono ?_
   rintro e w3 ⟨fa, fc, rfl, hF, hG3, -⟩
   have hE3 := (hE.grow hG3).weak (T := fun _ => True) fun _ _ _ => trivial
   have hF3 := hF.weak (T := fun _ => True) fun _ _ _ => trivial
   have hG13 := ((hG1.trans hG).trans hG2).trans hG3
   have hR3 := (hRr.grow hG2).grow hG3
   clear hE hF hRr hBk
   go_wp2_with fail
   refine (specIsSheet_c _ _ _ l _ hR3 (by omega) HCl.out).mono ?_
   rintro e w4 ⟨rfl, hG4⟩
   have hE4 := hE3.grow hG4
   have hF4 := hF3.grow hG4
   clear hE3 hF3 hR3
   cases hs : sheetB l with
   | false =>
    have e0 : (evalL l).length = 0 := by unfold evalL; rw [if_neg (by rw [hs]; simp)]; rfl
    rw [e0]
    go_wp2
    go_ret
    exact ⟨rfl, hG13.trans hG4⟩
   | true =>
    have HS := Lib.hid hs
    have e1 : (evalL l).length = k := by rw [eval_len hs]; exact Hl.out
    have e2 : (evalL l.reverse).length = k := by rw [eval_len (sheet_rev hs), List.length_reverse]; exact Hl.out
    rw [e1] at hE4 ⊢
    rw [e2] at hF4 ⊢
    clear hs e1 e2
    have hG14 := hG13.trans hG4
    clear hG13 hG4 hG3 hG2 hG hG1
    go_wp2_with fail
    go_loopw [8] (fun i wr => Grow w4 wr ∧ ∃ j : Nat, j ≤ k ∧ i = .int .i64 j) (fun i _ => k - (intOf i).toNat)
    case atStart => exact ⟨Grow.refl _, 0, Nat.zero_le _, rfl⟩
    case round =>
     obtain ⟨hG, i, hi, rfl⟩ := hrel
     by_cases hlt : i < k
     ·obtain ⟨j, hj⟩ : ∃ j, k = i + j + 1 := ⟨k - 1 - i, by omega⟩
      obtain ⟨r, hr1, hr2⟩ := eval_rev HS.out (i := i) (by rw [Hl.out]; exact hlt)
      rw [Hl.out, show k - 1 - i = j by omega] at hr2
      obtain ⟨b1, o1, s1, a1', c1', rfl, hs1, -, hb1, ⟨x0, x1, x2, x3⟩, rI1, rk1⟩ := (hE4.grow hG).at hlt
      obtain rfl : s1 = r := by rw [hr1] at hs1; exact (Option.some.inj hs1).symm
      obtain ⟨b2, o2, s2, a2', c2', rfl, hs2, -, hb2, ⟨y0, y1, y2, y3⟩, rI2, rk2⟩ := (hF4.grow hG).at (k := j) (by omega)
      obtain rfl : s2 = s1 := by rw [hr2] at hs2; exact (Option.some.inj hs2).symm
      have hsub : (k : Int) - 1 - (i : Int) = (j : Int) := by omega
      have Hj := Lib.hid hj
      have hbd : bdM (rsM s2) ≤ 2097152 := by have := (HEb.out _ (List.mem_of_getElem? hr1)).2; unfold bdM; omega
      have Hbd := Lib.hid hbd
      clear hj hr1 hr2 hs1 hs2 hbd
      go_wp2_with fail
      refine wp_region_segs (S := Grow wr) [([0, 1, 2, 3, 4, 5, 6, 7, 8, 9, 10, 11, 12, 13, 14, 15, 16, 17, 18, 19, 20, 21, 22, 23, 24, 25, 26, 27, 28, 29], some 30), ([31, 32], none)] P_mixed (by kernel_rfl) (fun _ _ _ _ _ h => h) (Grow.refl _).drew ?_
      show wpQuiet _ _ _ _ [_, _, _, _, _, _, _, _, _, _, _, _, _, _, _, _, _, _, _, _, _, _, _, _, _, _, _, _, _, _] _
      repeat (first | go_big_quiet_skip | (go_big_quiet_want; first | (apply quiet_load CT_bool; rfl; rfl; exact (fun w' hG => hG.cell x3); go_big_quiet_on; simp only [Act.put, List.setIfInBounds_toArray, List.set_cons_succ, List.set_cons_zero]) | (apply quiet_load CT_bool; rfl; rfl; exact (fun w' hG => hG.cell y3); go_big_quiet_on; simp only [Act.put, List.setIfInBounds_toArray, List.set_cons_succ, List.set_cons_zero]) | (apply quiet_load3At T_mat; rfl; rfl; exact (fun w' hG => ⟨hG.cell x0, hG.cell x1, hG.cell x2⟩); go_big_quiet_on; simp only [Act.put, List.setIfInBounds_toArray, List.set_cons_succ, List.set_cons_zero]) | (apply quiet_load3At T_mat; rfl; rfl; exact (fun w' hG => ⟨hG.cell y0, hG.cell y1, hG.cell y2⟩); go_big_quiet_on; simp only [Act.put, List.setIfInBounds_toArray, List.set_cons_succ, List.set_cons_zero]) | (go_big_quiet_op; first | go_big_quiet_on | (refine ⟨_, (fun _ _ => rfl), ?_⟩; go_big_quiet_on))))
      refine wpQuiet_nil ?_
      refine seg_go rfl (fun K hK => ?_)
      go_wp2_with fail
      refine (iSameMatrix_c (S := fun _ => True) (T := fun _ => True) (A := rsM s2) (B := rsM s2) ⟨a1', _, c1', rfl, rI1.grow (Grow.refl wr).drew, rk1.1, rk1.2⟩ ⟨a2', _, c2', rfl, rI2.grow (Grow.refl wr).drew, rk2.1, rk2.2⟩ Hbd.out).mono ?_
      rintro e w5 ⟨rfl, hG5⟩
      rw [sameMB_refl]
      have hG45 := (Grow.refl wr).drew.trans hG5
      go_wp2_with fail
      refine hK _ _ (hG45) ?_
      clear hK K
      show wpQuiet _ _ _ _ [_, _] _
      try (conv => arg 6; simp only [Act.put, List.setIfInBounds_toArray, List.set_cons_succ, List.set_cons_zero])
      repeat (first | go_big_quiet_skip | (go_big_quiet_want; first | (apply quiet_load CT_bool; rfl; rfl; exact (fun w' hG => hG.cell x3); go_big_quiet_on; simp only [Act.put, List.setIfInBounds_toArray, List.set_cons_succ, List.set_cons_zero]) | (apply quiet_load CT_bool; rfl; rfl; exact (fun w' hG => hG.cell y3); go_big_quiet_on; simp only [Act.put, List.setIfInBounds_toArray, List.set_cons_succ, List.set_cons_zero]) | (apply quiet_load3At T_mat; rfl; rfl; exact (fun w' hG => ⟨hG.cell x0, hG.cell x1, hG.cell x2⟩); go_big_quiet_on; simp only [Act.put, List.setIfInBounds_toArray, List.set_cons_succ, List.set_cons_zero]) | (apply quiet_load3At T_mat; rfl; rfl; exact (fun w' hG => ⟨hG.cell y0, hG.cell y1, hG.cell y2⟩); go_big_quiet_on; simp only [Act.put, List.setIfInBounds_toArray, List.set_cons_succ, List.set_cons_zero]) | (go_big_quiet_op; first | go_big_quiet_on | (refine ⟨_, (fun _ _ => rfl), ?_⟩; go_big_quiet_on))))
      refine wpQuiet_nil ?_
      refine wpSegs_nil ?_
      go_wp2_with fail
      go_roundw
      case rel => exact ⟨hG.trans hG45, i + 1, by omega, by go_num⟩
      case measure => simp [intOf]; omega
     ·obtain rfl : i = k := by omega
      go_wp2_with fail
      go_ret
      exact ⟨rfl, hG14.trans hG⟩
theorem lifted (os : Os) (started : os.Started) (H : Type) (enc : TypeId × Value → H) :
  ReturnsInHanded {} Try.checked os 3 .any (Rows.fnForwardsSpec.pre6 enc Try.prog Try.f3 Rows.fnForwardsRow.domain false) (Rows.fnForwardsSpec.post enc Try.prog Try.f3 false true false false) := by
 refine law_close (C := Try.checked) (tb := 4) P_own started (by kernel_rfl) Try.func3
  (ChangeSpec.witness6 (enc := enc) (C := Try.checked) false ⟨#[], #[.slice none 0 0], []⟩ 8 (by kernel_rfl) (by kernel_rfl) (by kernel_rfl) (by kernel_rfl))
  P_laid ?_ rfl Try.underlying4 rfl ?_ ?_
 ·exact of_decide_eq_true (by kernel_rfl)
 ·intro ds hds
  match ds, hds with
  | [d0], _ => rfl
 ·intro W args ds ps hval0 hA0
  have hval : ∀ (j : Nat) t v, Try.f3.params[j]? = some t → args[j]? = some v → Value.okWide Try.prog W .any 0 t v := hval0
  have hA : DataW.TrodAll enc Try.prog W 0 (fun _ => true) true Try.f3.params.toList args.toList ds ps := hA0
  rw [Try.params3] at hA hval
  obtain ⟨v0, vs0, d0, ds0, p0, q0, hargs, rfl, rfl, h0, r0⟩ := trodAll_cons hA
  obtain ⟨rfl, rfl, rfl⟩ := trodAll_nil r0
  obtain rfl : args = #[v0] := by cases args; simp_all
  obtain ⟨x0a, x0n, x0c, x0, rfl, hx0⟩ := openB Try.underlying22 Try.underlying5 cells_u8 (hval 0 22 v0 rfl rfl) h0
  exact walk _ _ _ x0 W hx0
theorem proved : Rows.FnForwardsSaid :=
 OpenClaim.holds_of_wide 3 Try.f3 rfl rfl rfl rfl rfl rfl rfl ⟨rfl, rfl, rfl, rfl, rfl⟩ rfl rfl rfl rfl rfl (by kernel_rfl) Try.func3 (by kernel_rfl)
  (of_decide_eq_true (by kernel_rfl)) (by unfold Func.isWrapper; first | (rw [if_pos (by decide +kernel)]; kernel_rfl) | (rw [if_neg (by decide +kernel)]; exact ⟨rfl, rfl⟩))
  (fun os started H enc _ => lifted os started H enc)
end Go.Proofs.Ytgeoehnbpkediaa.lawFnForwards
