/-
  The law FnModules returns true for all arguments: a finite module has as many elements as its orders together say, each of them in its normal form, and the order of each divides the last one. No condition.
-/
import Derived.Test.YtoiblknchcoecaaZDrawN
import Derived.Test.YtoiblknchcoecaaZElm
set_option maxHeartbeats 8000000
set_option maxRecDepth 100000
namespace Go.Proofs.Ytoiblknchcoecaa.lawFnModules
open Go.ChangeShapes Go.WideShapes Go.ChangeAt Go.RowKit
theorem cells_u8 : Try.prog.cellsOf 5 = 1 := by kernel_rfl
theorem big_c (a : Option Addr) (n cap : Nat) (w : World) (b : Bool) (hb : decide (1048576 < n) = b) :
  Calls Try.prog 4 #[.slice a n cap] w fun e w' => e = .returned (.bool b) ∧ w = w' := by
 cases b with
 | true =>
  have h := of_decide_eq_true hb
  go_enter Try.func4, Try.ntmps4
  go_wp2
  go_ret
  exact ⟨ret_bool (by simp; omega), rfl⟩
 | false =>
  have h := of_decide_eq_false hb
  go_enter Try.func4, Try.ntmps4
  go_wp2
  go_ret
  exact ⟨ret_bool (by simp; omega), rfl⟩
theorem sameInts_t {S T : Nat → Prop} (a b : Option Addr) (n m cap cap' : Nat) (xs : List Int) (w : World) (h : RdI w S a n cap xs) (h' : RdI w T b m cap' xs) (hn : n ≤ 2097152) :
  Calls Try.prog 12 #[.slice a n cap, .slice b m cap'] w fun e w' => e = .returned (.bool true) ∧ Qt w w' := by
 have hl := h.len
 have hl' := h'.len
 obtain rfl : n = m := by omega
 go_enter Try.func12, Try.ntmps12
 go_wp2
 go_loopw [5] (fun i wr => Qt w wr ∧ ∃ k : Nat, k ≤ n ∧ i = .int .i64 k) (fun i _ => n - (intOf i).toNat)
 case atStart => exact ⟨Qt.refl _, 0, Nat.zero_le _, rfl⟩
 case round =>
  obtain ⟨hG, k, hk, rfl⟩ := hrel
  by_cases hlt : k < n
  ·obtain ⟨b1, off1, x, rfl, hx, hxr, _, hbw, hc⟩ := (h.grow hG.grow).at hlt
   obtain ⟨b2, off2, y, rfl, hy, hyr, _, hbw2, hc2⟩ := (h'.grow hG.grow).at hlt
   obtain rfl : x = y := Option.some.inj (hx.symm.trans hy)
   clear hx hy
   go_wp2
   go_quiet (fail)
   go_wp2
   go_roundw
   case rel => exact ⟨hG.drewN _, k + 1, by omega, by go_num⟩
   case measure => simp [intOf]; omega
  ·go_wp2
   go_ret
   exact ⟨rfl, hG⟩
theorem abs_c (x : Int) (w : World) (hx : 0 ≤ x ∧ x ≤ 1152921504606846976) : Calls Try.prog 24 #[.int .i64 x] w fun e w' => e = .returned (.int .i64 x) ∧ w = w' := by
 go_enter Try.func24, Try.ntmps24
 go_wp2
 all_goals (go_ret; exact ⟨ret_int (by omega), rfl⟩)
theorem product_c {S : Nat → Prop} (a : Option Addr) (n cap : Nat) (xs : List Int) (w : World) (h : RdI w S a n cap xs) (hx : ∀ x ∈ xs, 1 ≤ x ∧ x ≤ 400000000) (hp : ∀ k, k < n → prd (xs.take k) < 1073741824) :
  Calls Try.prog 9 #[.slice a n cap] w fun e w' => e = .returned (.int .i64 (prd xs)) ∧ Grow w w' := by
 have hl := h.len
 have hmax : n ≤ 9223372036854775807 := by have h2 := h.row.max; have h3 := h.row.le; simp only [maxLen] at h2; omega
 have HX := Lib.hid hx
 have HP := Lib.hid hp
 clear hx hp
 go_enter Try.func9, Try.ntmps9
 go_wp2
 go_loopw [3, 4] (fun q i wr => Grow w wr ∧ ∃ k : Nat, k ≤ n ∧ i = .int .i64 k ∧ q = .int .i64 (prd (xs.take k))) (fun _ i _ => n - (intOf i).toNat)
 case atStart => exact ⟨Grow.refl _, 0, Nat.zero_le _, rfl, by simp [prd]⟩
 case round =>
  obtain ⟨hG, k, hk, rfl, rfl⟩ := hrel
  by_cases hlt : k < n
  ·obtain ⟨b1, o1, x, rfl, hxk, hxr, _, hb1, hc1⟩ := (h.grow hG).at hlt
   have h1 := HX.out x (List.mem_of_getElem? hxk)
   have h2 := HP.out k hlt
   have h3 := (prd_take (l := xs) (fun x hx => (HX.out x hx).1) k).1
   have h4 : prd (xs.take (k + 1)) = prd (xs.take k) * x := by rw [take_succ hxk, prd_snoc]
   obtain ⟨P, hP⟩ : ∃ P, prd (xs.take k) = P := ⟨_, rfl⟩
   obtain ⟨P', hP'⟩ : ∃ P, prd (xs.take (k + 1)) = P := ⟨_, rfl⟩
   rw [hP] at h2 h3 h4
   rw [hP'] at h4
   rw [hP]
   have h5 : P * x ≤ 1073741824 * 400000000 := Int.mul_le_mul (by omega) (by omega) (by omega) (by omega)
   have h6 : 0 ≤ P * x := Int.mul_nonneg (by omega) (by omega)
   have hw : wrap64 (P * x) = P' := by rw [h4]; unfold wrap64; omega
   have HP' := Lib.hid hP'
   clear h4 h5 h6 hP hP' HX HP hxk
   go_wp2_with (go_at_call 24; refine (abs_c P _ (by omega)).mono ?_; rintro e w' ⟨rfl, rfl⟩)
   go_roundw
   case rel => exact ⟨hG, k + 1, by omega, by go_num, by rw [HP'.out, hw]⟩
   case measure => simp [intOf]; omega
  ·obtain rfl : k = n := by omega
   go_wp2
   go_ret
   exact ⟨by rw [take_all hl]; rfl, hG⟩
theorem walk (a : Option Addr) (n cap : Nat) (bs : List Int) (w : World) (h : RdB w (fun _ => True) a n cap bs) :
  Calls Try.prog 3 #[.slice a n cap] w fun e w' => e = .returned (.bool true) ∧ Grow w w' := by
 by_cases hbig : 1048576 < n
 ·go_enter Try.func3, Try.ntmps3
  go_wp2_with fail
  refine (big_c a n cap _ true (decide_eq_true hbig)).mono ?_
  rintro e _ ⟨rfl, rfl⟩
  go_wp2
  go_ret
  exact ⟨rfl, Grow.refl _⟩
 have hbg := decide_eq_false hbig
 go_enter Try.func3, Try.ntmps3
 go_wp2_with fail
 refine (big_c a n cap _ false hbg).mono ?_
 rintro e _ ⟨rfl, rfl⟩
 clear hbg
 go_wp2_with fail
 refine (DrawElementsOf_c a n cap bs _ h (by omega)).mono ?_
 rintro e w1 ⟨v1, r, rfl, ⟨a1, n1, c1, rfl, rd1, ir, ic⟩, hbd, hG1⟩
 obtain ⟨w2, hw2⟩ : ∃ w2, w2 = w1.alloc (.cells #[.int .i64 r.rows, .int .i64 r.cols, .slice a1 n1 c1] 26) := ⟨_, rfl⟩
 have hG2 : Grow w1 w2 := by rw [hw2]; exact (Grow.refl _).alloc _ _
 have b1 : Blk w2 w1.heap.size #[.int .i64 r.rows, .int .i64 r.cols, .slice a1 n1 c1] 26 := by rw [hw2]; exact Blk.new _ _ _
 have V1 : VM w2 (fun _ => True) (.agg #[.int .i64 r.rows, .int .i64 r.cols, .slice a1 n1 c1]) r := ⟨_, _, _, rfl, rd1.grow hG2, ir, ic⟩
 have D1 := Lib.hid (show bdM r ≤ 1048576 by omega)
 have hGw := hG1.trans hG2
 clear rd1 ir ic hbd hG1 hbig h
 obtain ⟨⟨x10, x11, x12⟩, -⟩ := b1.three
 have l1 := b1.lt
 rw [hw2] at x10 x11 x12 l1
 go_wp2_with fail
 rw [← hw2]
 clear x10 x11 x12 l1 hw2 hG2
 refine (iElements_c V1 D1.out).mono ?_
 rintro e w3 ⟨lv, rfl, hL, hG3⟩
 have HE0 := Lib.hid (fun (he : elsOk r = true) (hf : facOk r = true) => mod_of he hf)
 have HE1 := Lib.hid (fun (he : elsOk r = true) (v : List Int) (hv : v ∈ elsL r) => els_nrm he hv)
 have HE2 := Lib.hid (fun (he : elsOk r = false) => (show elsL r = [] by unfold elsL; rw [he]; rfl))
 obtain ⟨la, ln, lc, rfl, rL⟩ := hL.rd (S := fun _ => True) fun _ _ => trivial
 obtain ⟨ok, hok⟩ : ∃ x, elsOk r = x := ⟨_, rfl⟩
 rw [hok]
 rw [hok] at HE0 HE1 HE2
 have Hok := Lib.hid hok
 clear hok hL
 replace V1 := V1.grow hG3
 replace b1 := b1.grow hG3
 replace hGw := hGw.trans hG3
 clear hG3
 obtain ⟨⟨x10, x11, x12⟩, -⟩ := b1.three
 go_wp2_with fail
 clear x10 x11 x12
 refine (sElements_c V1 D1.out).mono ?_
 rintro e w4 ⟨sv, rfl, hSL, hG4⟩
 obtain ⟨sa, sn, sc, rfl, rSL⟩ := hSL.rd (S := fun _ => True) fun _ _ => trivial
 clear hSL rSL
 rw [Hok.out]
 replace V1 := V1.grow hG4
 replace b1 := b1.grow hG4
 replace rL := rL.grow hG4
 replace hGw := hGw.trans hG4
 clear hG4
 have hll := rL.len
 have Hll := Lib.hid hll
 clear hll
 obtain ⟨⟨x10, x11, x12⟩, -⟩ := b1.three
 go_wp2_with fail
 clear x10 x11 x12
 refine (iInvariants_c V1 D1.out).mono ?_
 rintro e w5 ⟨ov, rfl, hO, hG5⟩
 obtain ⟨oa, on, oc, rfl, rO⟩ := hO.rd (S := fun _ => True) fun _ _ => trivial
 obtain ⟨kn, hkn⟩ : ∃ x, facOk r = x := ⟨_, rfl⟩
 rw [hkn]
 rw [hkn] at HE0
 clear hkn hO
 replace V1 := V1.grow hG5
 replace b1 := b1.grow hG5
 replace rL := rL.grow hG5
 replace hGw := hGw.trans hG5
 clear hG5
 cases ok with
 | false =>
  have h0 : ln = 0 := by have := Hll.out; rw [HE2.out rfl] at this; simpa using this.symm
  subst h0
  go_wp2
  go_ret
  exact ⟨rfl, hGw⟩
 | true =>
  have HE3 := Lib.hid (fun (v : List Int) (hv : v ∈ elsL r) => HE1.out (by simp) v hv)
  have HM := Lib.hid (fun (hk : kn = true) => HE0.out (by simp) hk)
  clear HE0 HE1 HE2
  obtain ⟨N, hN⟩ : ∃ x, invN r = x := ⟨_, rfl⟩
  rw [hN]
  have HN := Lib.hid (fun (hk : kn = true) => (show N = 0 by rw [← hN]; exact (HM.out hk).free))
  have hol := rO.len
  have Hol := Lib.hid hol
  clear hN hol
  cases kn with
  | false =>
   go_wp2
   go_loopw [11] (fun i wr => Grow w5 wr ∧ ∃ k : Nat, k ≤ ln ∧ i = .int .i64 k) (fun i _ => ln - (intOf i).toNat)
   case atStart => exact ⟨Grow.refl _, 0, Nat.zero_le _, rfl⟩
   case round =>
    obtain ⟨hG, k, hk, rfl⟩ := hrel
    by_cases hlt : k < ln
    ·by_cases h10 : k < 10
     ·have V1r := V1.grow hG
      have b1r := b1.grow hG
      have rOr := rO.grow hG
      obtain ⟨bv, ofv, v, va, vc, rfl, hv, _, hbv, hcv, hrd⟩ := (rL.grow hG).at hlt
      have hmem := List.mem_of_getElem? hv
      have E := Lib.hid (HE3.out v hmem)
      have HMo := Lib.hid (fun hk => (HM.out hk).ord v hmem)
      have hv24 := E.out.2.2
      clear hv hmem
      go_wp2
      refine wp_region_segs (S := Grow wr) [([0, 1, 2, 3, 4], some 5), ([6, 7, 8, 9, 10], none)] P_mixed (by kernel_rfl) (fun _ _ _ _ _ h => h) (Grow.refl _).drew ?_
      show wpQuiet _ _ _ _ [_, _, _, _, _] _
      repeat (first | go_big_quiet_skip | (go_big_quiet_want; first | (apply quiet_load3 T_mat; rfl; rfl; exact (fun w' hG => b1r.grow hG); go_big_quiet_on; simp only [Act.put, List.setIfInBounds_toArray, List.set_cons_succ, List.set_cons_zero]) | (apply quiet_load CT_ints; rfl; rfl; exact (fun w' hG => hG.cell hcv); go_big_quiet_on; simp only [Act.put, List.setIfInBounds_toArray, List.set_cons_succ, List.set_cons_zero]) | (go_big_quiet_op; first | go_big_quiet_on | (refine ⟨_, (fun _ _ => rfl), ?_⟩; go_big_quiet_on))))
      refine wpQuiet_nil ?_
      refine seg_go rfl (fun K hK => ?_)
      go_wp2_with fail
      refine (iNormalIn_c (v := v) (V1r.grow (Grow.refl _).drew) D1.out ⟨_, _, _, rfl, hrd.grow (Grow.refl _).drew⟩ (by unfold bdI; omega)).mono ?_
      rintro e w8 ⟨xv, rfl, hX, hG8⟩
      rw [E.out.1]
      rw [E.out.2.1] at hX
      obtain ⟨xa, xn, xc, rfl, rX⟩ := hX.rd (S := fun _ => True) fun _ _ => trivial
      have hGz := (Grow.refl wr).drew.trans hG8
      go_wp2_with fail
      refine hK _ _ (hGz) ?_
      clear hK K
      show wpQuiet _ _ _ _ [_, _, _, _, _] _
      try (conv => arg 6; simp only [Act.put, List.setIfInBounds_toArray, List.set_cons_succ, List.set_cons_zero])
      repeat (first | go_big_quiet_skip | (go_big_quiet_want; first | (apply quiet_load3 T_mat; rfl; rfl; exact (fun w' hG => b1r.grow hG); go_big_quiet_on; simp only [Act.put, List.setIfInBounds_toArray, List.set_cons_succ, List.set_cons_zero]) | (apply quiet_load CT_ints; rfl; rfl; exact (fun w' hG => hG.cell hcv); go_big_quiet_on; simp only [Act.put, List.setIfInBounds_toArray, List.set_cons_succ, List.set_cons_zero]) | (go_big_quiet_op; first | go_big_quiet_on | (refine ⟨_, (fun _ _ => rfl), ?_⟩; go_big_quiet_on))))
      refine wpQuiet_nil ?_
      refine wpSegs_nil ?_
      have hcv8 := hGz.cell hcv
      have hs8 := hGz.size
      have hbv8 : bv < w8.heap.size := by omega
      have V8 := V1r.grow hGz
      have b8 := b1r.grow hGz
      have rO8 := rOr.grow hGz
      have hrd8 := hrd.grow hGz
      have hG8' := hG.trans hGz
      clear hX hG8 hGz hG
      go_wp2
      refine wp_region_segs (S := Grow w8) [([0, 1, 2, 3, 4], some 5), ([6, 7, 8, 9, 10], none)] P_mixed (by kernel_rfl) (fun _ _ _ _ _ h => h) (Grow.refl _).drew ?_
      show wpQuiet _ _ _ _ [_, _, _, _, _] _
      repeat (first | go_big_quiet_skip | (go_big_quiet_want; first | (apply quiet_load3 T_mat; rfl; rfl; exact (fun w' hG => b8.grow hG); go_big_quiet_on; simp only [Act.put, List.setIfInBounds_toArray, List.set_cons_succ, List.set_cons_zero]) | (apply quiet_load CT_ints; rfl; rfl; exact (fun w' hG => hG.cell hcv8); go_big_quiet_on; simp only [Act.put, List.setIfInBounds_toArray, List.set_cons_succ, List.set_cons_zero]) | (go_big_quiet_op; first | go_big_quiet_on | (refine ⟨_, (fun _ _ => rfl), ?_⟩; go_big_quiet_on))))
      refine wpQuiet_nil ?_
      refine seg_go rfl (fun K hK => ?_)
      go_wp2_with fail
      refine (implOrderIn_v (v := v) (V8.grow (Grow.refl _).drew) D1.out ⟨_, _, _, rfl, hrd8.grow (Grow.refl _).drew⟩ (by unfold bdI; omega)).mono ?_
      rintro e w9 ⟨rfl, hG9⟩
      generalize ordR r v = R at *
      obtain ⟨q0, gd⟩ := R
      have hGz := (Grow.refl w8).drew.trans hG9
      go_wp2_with fail
      refine hK _ _ (hGz) ?_
      clear hK K
      show wpQuiet _ _ _ _ [_, _, _, _, _] _
      try (conv => arg 6; simp only [Act.put, List.setIfInBounds_toArray, List.set_cons_succ, List.set_cons_zero])
      repeat (first | go_big_quiet_skip | (go_big_quiet_want; first | (apply quiet_load3 T_mat; rfl; rfl; exact (fun w' hG => b8.grow hG); go_big_quiet_on; simp only [Act.put, List.setIfInBounds_toArray, List.set_cons_succ, List.set_cons_zero]) | (apply quiet_load CT_ints; rfl; rfl; exact (fun w' hG => hG.cell hcv8); go_big_quiet_on; simp only [Act.put, List.setIfInBounds_toArray, List.set_cons_succ, List.set_cons_zero]) | (go_big_quiet_op; first | go_big_quiet_on | (refine ⟨_, (fun _ _ => rfl), ?_⟩; go_big_quiet_on))))
      refine wpQuiet_nil ?_
      refine wpSegs_nil ?_
      have hcv9 := hGz.cell hcv8
      have hs9 := hGz.size
      have hbv9 : bv < w9.heap.size := by omega
      have rO9 := rO8.grow hGz
      have hrd9 := hrd8.grow hGz
      have rX9 := rX.grow hGz
      have hG9' := hG8'.trans hGz
      have hxl : xn = v.length := by have := rX.len; omega
      subst hxl
      clear hcv8 hs8 hbv8 V8 b8 rO8 hrd8 hG8' hGz hG9 rX hcv V1r b1r rOr hrd
      cases on with
      | zero =>
       cases gd with
       | false =>
        go_wp2_with (go_at_call 12; refine (sameInts_t xa va _ _ xc vc v _ rX9 hrd9 (by omega)).mono ?_; rintro e wq ⟨rfl, hQ⟩)
        go_roundw
        case rel => exact ⟨hG9'.trans hQ.grow, k + 1, by omega, by go_num⟩
        case measure => simp [intOf]; omega
       | true =>
        go_wp2_with (go_at_call 12; refine (sameInts_t xa va _ _ xc vc v _ rX9 hrd9 (by omega)).mono ?_; rintro e wq ⟨rfl, hQ⟩)
        go_roundw
        case rel => exact ⟨hG9'.trans hQ.grow, k + 1, by omega, by go_num⟩
        case measure => simp [intOf]; omega
      | succ p =>
       have hpm : p ≤ 9223372036854775806 := by have h2 := rO9.row.max; have h3 := rO9.row.le; simp only [maxLen] at h2; omega
       obtain ⟨bo, oo, y, rfl, hy, hyr, _, hbo, hco⟩ := rO9.at (Nat.lt_succ_self p)
       cases gd with
       | false =>
        go_wp2_with (go_at_call 12; refine (sameInts_t xa va _ _ xc vc v _ rX9 hrd9 (by omega)).mono ?_; rintro e wq ⟨rfl, hQ⟩)
        go_roundw
        case rel => exact ⟨hG9'.trans hQ.grow, k + 1, by omega, by go_num⟩
        case measure => simp [intOf]; omega
       | true =>
        go_wp2_with (go_at_call 12; refine (sameInts_t xa va _ _ xc vc v _ rX9 hrd9 (by omega)).mono ?_; rintro e wq ⟨rfl, hQ⟩)
        go_roundw
        case rel => exact ⟨hG9'.trans hQ.grow, k + 1, by omega, by go_num⟩
        case measure => simp [intOf]; omega
     ·go_wp2
      go_ret
      exact ⟨rfl, hGw.trans hG⟩
    ·go_wp2
     go_ret
     exact ⟨rfl, hGw.trans hG⟩
  | true =>
   obtain rfl := HN.out rfl
   have hM := HM.out rfl
   have hnum := hM.num
   have hge : ∀ x ∈ gt1 (facB r), 1 ≤ x := fun x hx => by have := (hnum x hx).1; omega
   have hcnt := hM.count
   rw [Hll.out] at hcnt
   have hll5 : ln ≤ 500 := by have := hM.le; rw [Hll.out] at this; exact this
   go_wp2_with fail
   refine (product_c oa on oc (gt1 (facB r)) _ rO (fun x hx => ⟨hge x hx, by have := (hnum x hx).2; omega⟩) (fun k _ => by have := prd_le hge k; omega)).mono ?_
   rintro e w6 ⟨rfl, hG6⟩
   rw [hcnt]
   replace V1 := V1.grow hG6
   replace b1 := b1.grow hG6
   replace rL := rL.grow hG6
   replace rO := rO.grow hG6
   replace hGw := hGw.trans hG6
   clear hG6 hM hnum hge hcnt hll5
   go_wp2
   go_loopw [11] (fun i wr => Grow w6 wr ∧ ∃ k : Nat, k ≤ ln ∧ i = .int .i64 k) (fun i _ => ln - (intOf i).toNat)
   case atStart => exact ⟨Grow.refl _, 0, Nat.zero_le _, rfl⟩
   case round =>
    obtain ⟨hG, k, hk, rfl⟩ := hrel
    by_cases hlt : k < ln
    ·by_cases h10 : k < 10
     ·have V1r := V1.grow hG
      have b1r := b1.grow hG
      have rOr := rO.grow hG
      obtain ⟨bv, ofv, v, va, vc, rfl, hv, _, hbv, hcv, hrd⟩ := (rL.grow hG).at hlt
      have hmem := List.mem_of_getElem? hv
      have E := Lib.hid (HE3.out v hmem)
      have HMo := Lib.hid (fun hk => (HM.out hk).ord v hmem)
      have hv24 := E.out.2.2
      clear hv hmem
      go_wp2
      refine wp_region_segs (S := Grow wr) [([0, 1, 2, 3, 4], some 5), ([6, 7, 8, 9, 10], none)] P_mixed (by kernel_rfl) (fun _ _ _ _ _ h => h) (Grow.refl _).drew ?_
      show wpQuiet _ _ _ _ [_, _, _, _, _] _
      repeat (first | go_big_quiet_skip | (go_big_quiet_want; first | (apply quiet_load3 T_mat; rfl; rfl; exact (fun w' hG => b1r.grow hG); go_big_quiet_on; simp only [Act.put, List.setIfInBounds_toArray, List.set_cons_succ, List.set_cons_zero]) | (apply quiet_load CT_ints; rfl; rfl; exact (fun w' hG => hG.cell hcv); go_big_quiet_on; simp only [Act.put, List.setIfInBounds_toArray, List.set_cons_succ, List.set_cons_zero]) | (go_big_quiet_op; first | go_big_quiet_on | (refine ⟨_, (fun _ _ => rfl), ?_⟩; go_big_quiet_on))))
      refine wpQuiet_nil ?_
      refine seg_go rfl (fun K hK => ?_)
      go_wp2_with fail
      refine (iNormalIn_c (v := v) (V1r.grow (Grow.refl _).drew) D1.out ⟨_, _, _, rfl, hrd.grow (Grow.refl _).drew⟩ (by unfold bdI; omega)).mono ?_
      rintro e w8 ⟨xv, rfl, hX, hG8⟩
      rw [E.out.1]
      rw [E.out.2.1] at hX
      obtain ⟨xa, xn, xc, rfl, rX⟩ := hX.rd (S := fun _ => True) fun _ _ => trivial
      have hGz := (Grow.refl wr).drew.trans hG8
      go_wp2_with fail
      refine hK _ _ (hGz) ?_
      clear hK K
      show wpQuiet _ _ _ _ [_, _, _, _, _] _
      try (conv => arg 6; simp only [Act.put, List.setIfInBounds_toArray, List.set_cons_succ, List.set_cons_zero])
      repeat (first | go_big_quiet_skip | (go_big_quiet_want; first | (apply quiet_load3 T_mat; rfl; rfl; exact (fun w' hG => b1r.grow hG); go_big_quiet_on; simp only [Act.put, List.setIfInBounds_toArray, List.set_cons_succ, List.set_cons_zero]) | (apply quiet_load CT_ints; rfl; rfl; exact (fun w' hG => hG.cell hcv); go_big_quiet_on; simp only [Act.put, List.setIfInBounds_toArray, List.set_cons_succ, List.set_cons_zero]) | (go_big_quiet_op; first | go_big_quiet_on | (refine ⟨_, (fun _ _ => rfl), ?_⟩; go_big_quiet_on))))
      refine wpQuiet_nil ?_
      refine wpSegs_nil ?_
      have hcv8 := hGz.cell hcv
      have hs8 := hGz.size
      have hbv8 : bv < w8.heap.size := by omega
      have V8 := V1r.grow hGz
      have b8 := b1r.grow hGz
      have rO8 := rOr.grow hGz
      have hrd8 := hrd.grow hGz
      have hG8' := hG.trans hGz
      clear hX hG8 hGz hG
      go_wp2
      refine wp_region_segs (S := Grow w8) [([0, 1, 2, 3, 4], some 5), ([6, 7, 8, 9, 10], none)] P_mixed (by kernel_rfl) (fun _ _ _ _ _ h => h) (Grow.refl _).drew ?_
      show wpQuiet _ _ _ _ [_, _, _, _, _] _
      repeat (first | go_big_quiet_skip | (go_big_quiet_want; first | (apply quiet_load3 T_mat; rfl; rfl; exact (fun w' hG => b8.grow hG); go_big_quiet_on; simp only [Act.put, List.setIfInBounds_toArray, List.set_cons_succ, List.set_cons_zero]) | (apply quiet_load CT_ints; rfl; rfl; exact (fun w' hG => hG.cell hcv8); go_big_quiet_on; simp only [Act.put, List.setIfInBounds_toArray, List.set_cons_succ, List.set_cons_zero]) | (go_big_quiet_op; first | go_big_quiet_on | (refine ⟨_, (fun _ _ => rfl), ?_⟩; go_big_quiet_on))))
      refine wpQuiet_nil ?_
      refine seg_go rfl (fun K hK => ?_)
      go_wp2_with fail
      refine (implOrderIn_v (v := v) (V8.grow (Grow.refl _).drew) D1.out ⟨_, _, _, rfl, hrd8.grow (Grow.refl _).drew⟩ (by unfold bdI; omega)).mono ?_
      rintro e w9 ⟨rfl, hG9⟩
      generalize ordR r v = R at *
      obtain ⟨q0, gd⟩ := R
      have hGz := (Grow.refl w8).drew.trans hG9
      go_wp2_with fail
      refine hK _ _ (hGz) ?_
      clear hK K
      show wpQuiet _ _ _ _ [_, _, _, _, _] _
      try (conv => arg 6; simp only [Act.put, List.setIfInBounds_toArray, List.set_cons_succ, List.set_cons_zero])
      repeat (first | go_big_quiet_skip | (go_big_quiet_want; first | (apply quiet_load3 T_mat; rfl; rfl; exact (fun w' hG => b8.grow hG); go_big_quiet_on; simp only [Act.put, List.setIfInBounds_toArray, List.set_cons_succ, List.set_cons_zero]) | (apply quiet_load CT_ints; rfl; rfl; exact (fun w' hG => hG.cell hcv8); go_big_quiet_on; simp only [Act.put, List.setIfInBounds_toArray, List.set_cons_succ, List.set_cons_zero]) | (go_big_quiet_op; first | go_big_quiet_on | (refine ⟨_, (fun _ _ => rfl), ?_⟩; go_big_quiet_on))))
      refine wpQuiet_nil ?_
      refine wpSegs_nil ?_
      have hcv9 := hGz.cell hcv8
      have hs9 := hGz.size
      have hbv9 : bv < w9.heap.size := by omega
      have rO9 := rO8.grow hGz
      have hrd9 := hrd8.grow hGz
      have rX9 := rX.grow hGz
      have hG9' := hG8'.trans hGz
      have hxl : xn = v.length := by have := rX.len; omega
      subst hxl
      clear hcv8 hs8 hbv8 V8 b8 rO8 hrd8 hG8' hGz hG9 rX hcv V1r b1r rOr hrd
      cases gd with
      | false =>
       cases on with
       | zero =>
        go_wp2_with (go_at_call 12; refine (sameInts_t xa va _ _ xc vc v _ rX9 hrd9 (by omega)).mono ?_; rintro e wq ⟨rfl, hQ⟩)
        go_roundw
        case rel => exact ⟨hG9'.trans hQ.grow, k + 1, by omega, by go_num⟩
        case measure => simp [intOf]; omega
       | succ p =>
        have hpm : p ≤ 9223372036854775806 := by have h2 := rO9.row.max; have h3 := rO9.row.le; simp only [maxLen] at h2; omega
        obtain ⟨bo, oo, y, rfl, hy, hyr, _, hbo, hco⟩ := rO9.at (Nat.lt_succ_self p)
        go_wp2_with (go_at_call 12; refine (sameInts_t xa va _ _ xc vc v _ rX9 hrd9 (by omega)).mono ?_; rintro e wq ⟨rfl, hQ⟩)
        go_roundw
        case rel => exact ⟨hG9'.trans hQ.grow, k + 1, by omega, by go_num⟩
        case measure => simp [intOf]; omega
      | true =>
       obtain ⟨q, q1, q2, q3, q4⟩ := HMo.out (by simp) (by simp)
       have q2' : q0 = (q : Int) := q2
       subst q2'
       have q5 : ¬ (q : Int) < 1 := by omega
       have Q3 := Lib.hid q3
       have Q4 := Lib.hid q4
       clear q3 q4
       cases on with
       | zero =>
        have hz : (q : Int) ∣ 1 := Q3.out (List.length_eq_zero_iff.1 Hol.out)
        obtain rfl : q = 1 := by have := Int.le_of_dvd (by omega) hz; omega
        clear hz
        go_wp2_with (go_at_call 12; refine (sameInts_t xa va _ _ xc vc v _ rX9 hrd9 (by omega)).mono ?_; rintro e wq ⟨rfl, hQ⟩)
        go_roundw
        case rel => exact ⟨hG9'.trans hQ.grow, k + 1, by omega, by go_num⟩
        case measure => simp [intOf]; omega
       | succ p =>
        have hpm : p ≤ 9223372036854775806 := by have h2 := rO9.row.max; have h3 := rO9.row.le; simp only [maxLen] at h2; omega
        obtain ⟨bo, oo, y, rfl, hy, hyr, _, hbo, hco⟩ := rO9.at (Nat.lt_succ_self p)
        have hz : (q : Int) ∣ y := Q4.out y (by rw [Hol.out]; exact hy)
        have hy1 : 1 < y := (gt1_mem (List.mem_of_getElem? hy)).2
        have hz1 : y.tmod q = 0 := Int.tmod_eq_zero_of_dvd hz
        have hz2 : y % q = 0 := Int.emod_eq_zero_of_dvd hz
        clear hz hy
        go_wp2_with (go_at_call 12; refine (sameInts_t xa va _ _ xc vc v _ rX9 hrd9 (by omega)).mono ?_; rintro e wq ⟨rfl, hQ⟩)
        go_roundw
        case rel => exact ⟨hG9'.trans hQ.grow, k + 1, by omega, by go_num⟩
        case measure => simp [intOf]; omega
     ·go_wp2
      go_ret
      exact ⟨rfl, hGw.trans hG⟩
    ·go_wp2
     go_ret
     exact ⟨rfl, hGw.trans hG⟩
theorem lifted (os : Os) (started : os.Started) (H : Type) (enc : TypeId × Value → H) :
  ReturnsInHanded {} Try.checked os 3 .any (Rows.fnModulesSpec.pre6 enc Try.prog Try.f3 Rows.fnModulesRow.domain false) (Rows.fnModulesSpec.post enc Try.prog Try.f3 false true false false) := by
 refine law_close (C := Try.checked) (tb := 4) P_own started (by kernel_rfl) Try.func3
  (ChangeSpec.witness6 (enc := enc) (C := Try.checked) false ⟨#[], #[.slice none 0 0], []⟩ 8 (by kernel_rfl) (by kernel_rfl) (by kernel_rfl) (by kernel_rfl))
  P_laid ?_ rfl Try.underlying4 rfl ?_ ?_
 ·exact of_decide_eq_true (by kernel_rfl)
 ·intro ds hds
  match ds, hds with
  | [d0], _ => rfl
 ·intro W args ds ps hval0 hA0
  have hval : ∀ (j : Nat) t v, Try.f3.params[j]? = some t → args[j]? = some v → Value.okWide Try.prog W .any 0 t v := hval0
  have hA : DataW.TrodAll enc Try.prog W 0 (fun _ => true) true Try.f3.params.toList args.toList ds ps := hA0
  rw [Try.params3] at hA hval
  obtain ⟨v0, vs0, d0, ds0, p0, q0, hargs, rfl, rfl, h0, r0⟩ := trodAll_cons hA
  obtain ⟨rfl, rfl, rfl⟩ := trodAll_nil r0
  obtain rfl : args = #[v0] := by cases args; simp_all
  obtain ⟨x0a, x0n, x0c, x0, rfl, hx0⟩ := openB Try.underlying22 Try.underlying5 cells_u8 (hval 0 22 v0 rfl rfl) h0
  exact walk _ _ _ x0 W hx0
theorem proved : Rows.FnModulesSaid :=
 OpenClaim.holds_of_wide 3 Try.f3 rfl rfl rfl rfl rfl rfl rfl ⟨rfl, rfl, rfl, rfl, rfl⟩ rfl rfl rfl rfl rfl (by kernel_rfl) Try.func3 (by kernel_rfl)
  (of_decide_eq_true (by kernel_rfl)) (by unfold Func.isWrapper; first | (rw [if_pos (by decide +kernel)]; kernel_rfl) | (rw [if_neg (by decide +kernel)]; exact ⟨rfl, rfl⟩))
  (fun os started H enc _ => lifted os started H enc)
end Go.Proofs.Ytoiblknchcoecaa.lawFnModules
