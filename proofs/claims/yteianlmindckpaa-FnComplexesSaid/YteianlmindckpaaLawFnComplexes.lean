/-
  The law FnComplexes returns true for all arguments: complexes are closed under faces, closing twice changes nothing, a cone has the Euler number 1 and its tip's link is the complex. No condition.
-/
import Derived.Test.YteianlmindckpaaDrawX
import Derived.Test.YteianlmindckpaaCpxL
import Derived.Test.YteianlmindckpaaConeI
import Derived.Test.YteianlmindckpaaLinkJ
namespace Go.Proofs.Yteianlmindckpaa.lawFnComplexes
open Go.ChangeShapes Go.WideShapes Go.ChangeAt Go.RowKit

theorem cells_u8 : Try.prog.cellsOf 5 = 1 := by kernel_rfl
theorem out_small (l : List (List Int)) : (cplxOut l).length ≤ 96 ∧ total (cplxOut l) ≤ 384 := by
  cases h : cplxOk l with
  | false => 
    have : cplxOut l = [] := by unfold cplxOut; rw [h]; rfl
    rw [this]; simp [total]
  | true =>
    have hB := out_cplx h
    have h1 := cplx_len hB
    have := total_small (c := 4) fun s hs => (simp_len ((isCplxB_iff.1 hB).1.1 s hs)).2
    exact ⟨h1, by omega⟩
theorem cone_small (l : List (List Int)) (v : Int) : (coneOut l v).length ≤ 96 ∧ total (coneOut l v) ≤ 384 := by
  unfold coneOut
  split
  · exact out_small _
  · simp [total]
set_option maxHeartbeats 400000 in
theorem big_c (a : Option Addr) (n cap : Nat) (w : World) (b : Bool) (hb : decide (1048576 < n) = b) :
    Calls Try.prog 12 #[.slice a n cap] w fun e w' => e = .returned (.bool b) ∧ w = w' := by
  cases b with
  | true =>
    have h := of_decide_eq_true hb
    go_enter Try.func12, Try.ntmps12
    go_wp2
    go_ret
    exact ⟨ret_bool (by simp; omega), rfl⟩
  | false =>
    have h := of_decide_eq_false hb
    go_enter Try.func12, Try.ntmps12
    go_wp2
    go_ret
    exact ⟨ret_bool (by simp; omega), rfl⟩
set_option maxHeartbeats 400000 in
theorem sameInts_t {S T : Nat → Prop} (a b : Option Addr) (n m cap cap' : Nat) (xs : List Int) (w : World) (h : RdI w S a n cap xs) (h' : RdI w T b m cap' xs) (hn : n ≤ 2097152) :
    Calls Try.prog 47 #[.slice a n cap, .slice b m cap'] w fun e w' => e = .returned (.bool true) ∧ Qt w w' := by
  have hl := h.len
  have hl' := h'.len
  obtain rfl : n = m := by omega
  go_enter Try.func47, Try.ntmps47
  go_wp2
  go_loopw [5] (fun i wr => Qt w wr ∧ ∃ k : Nat, k ≤ n ∧ i = .int .i64 k) (fun i _ => n - (intOf i).toNat)
  case atStart => exact ⟨Qt.refl _, 0, Nat.zero_le _, rfl⟩
  case round =>
    obtain ⟨hG, k, hk, rfl⟩ := hrel
    by_cases hlt : k < n
    · obtain ⟨b1, off1, x, rfl, hx, hxr, _, hbw, hc⟩ := (h.grow hG.grow).at hlt
      obtain ⟨b2, off2, y, rfl, hy, hyr, _, hbw2, hc2⟩ := (h'.grow hG.grow).at hlt
      obtain rfl : x = y := Option.some.inj (hx.symm.trans hy)
      clear hx hy
      go_wp2
      go_quiet (fail)
      go_wp2
      go_roundw
      case rel => exact ⟨hG.drewN _, k + 1, by omega, by go_num⟩
      case measure => simp [intOf]; omega
    · go_wp2
      go_ret
      exact ⟨rfl, hG⟩
set_option maxHeartbeats 400000 in
theorem sameRows_t {S T : Nat → Prop} (a b : Option Addr) (n m cap cap' : Nat) (xss : List (List Int)) (w : World) (h : RdII w S a n cap xss) (h' : RdII w T b m cap' xss) (hn : n ≤ 2097152) (ht : total xss ≤ 2097152) :
    Calls Try.prog 19 #[.slice a n cap, .slice b m cap'] w fun e w' => e = .returned (.bool true) ∧ Qt w w' := by
  have hl := h.len
  have hl' := h'.len
  obtain rfl : n = m := by omega
  go_enter Try.func19, Try.ntmps19
  go_wp2
  go_loopw [5] (fun i wr => Qt w wr ∧ ∃ k : Nat, k ≤ n ∧ i = .int .i64 k) (fun i _ => n - (intOf i).toNat)
  case atStart => exact ⟨Qt.refl _, 0, Nat.zero_le _, rfl⟩
  case round =>
    obtain ⟨hG, k, hk, rfl⟩ := hrel
    by_cases hlt : k < n
    · obtain ⟨b1, off1, xs, a1, c1, rfl, hx, _, hbw, hc, hrd⟩ := (h.grow hG.grow).at hlt
      obtain ⟨b2, off2, ys, a2, c2, rfl, hy, _, hbw2, hc2, hrd2⟩ := (h'.grow hG.grow).at hlt
      obtain rfl : xs = ys := Option.some.inj (hx.symm.trans hy)
      clear hy
      have hxl : xs.length ≤ 2097152 := by have := total_at hx; omega
      have Hx := Lib.hid hx; clear hx
      go_wp2
      go_quiet ((go_at_call 47; exact Calls.quiet_qt (sameInts_t _ _ _ _ _ _ xs _ (hrd.grow ((Grow.refl _).drewN _)) (hrd2.grow ((Grow.refl _).drewN _)) hxl)))
      go_wp2
      go_roundw
      case rel => exact ⟨hG.drewN _, k + 1, by omega, by go_num⟩
      case measure => simp [intOf]; omega
    · go_wp2
      go_ret
      exact ⟨rfl, hG⟩
set_option maxHeartbeats 4000000 in
set_option maxRecDepth 100000 in
theorem walk (a : Option Addr) (n cap : Nat) (bs : List Int) (w : World) (h : RdB w (fun _ => True) a n cap bs) :
    Calls Try.prog 4 #[.slice a n cap] w fun e w' => e = .returned (.bool true) ∧ Grow w w' := by
  by_cases hbig : 1048576 < n
  · go_enter Try.func4, Try.ntmps4
    go_wp2_with fail
    refine (big_c a n cap _ true (decide_eq_true hbig)).mono ?_
    rintro e _ ⟨rfl, rfl⟩
    go_wp2
    go_ret
    exact ⟨rfl, Grow.refl _⟩
  have hbg := decide_eq_false hbig
  go_enter Try.func4, Try.ntmps4
  go_wp2_with fail
  refine (big_c a n cap _ false hbg).mono ?_
  rintro e _ ⟨rfl, rfl⟩
  clear hbg
  go_wp2_with fail
  refine (DrawComplexOf_c a n cap bs _ h (by omega)).mono ?_
  rintro e w1 ⟨la, m, lc, l, rfl, hR, hm, h4, hG1⟩
  have hll := hR.len
  have htl : total l ≤ 56 := by have := total_small h4; omega
  clear h4 h
  go_wp2_with fail
  refine (implComplexOf_c _ _ _ l _ hR (by omega) (by omega)).mono ?_
  rintro e w2 ⟨xa, xn, xc, rfl, hX0, hG2⟩
  go_wp2_with fail
  refine (specComplexOf_c _ _ _ l _ (hR.grow hG2) (by omega) (by omega)).mono ?_
  rintro e w3 ⟨ta, tn, tc, rfl, _, hG3⟩
  have rX := (hX0.rdII (S := fun _ => True) fun _ _ => trivial).grow hG3
  have hGt := (hG1.trans hG2).trans hG3
  clear hX0 hG1 hG2 hG3 hR
  obtain ⟨hs1, hs2⟩ := out_small l
  cases hok : cplxOk l with
  | false =>
    have h0 : xn = 0 := by
      have := rX.len
      unfold cplxOut at this
      rw [hok] at this
      simpa using this.symm
    subst h0
    go_wp2
    go_ret
    exact ⟨rfl, hGt⟩
  | true =>
    have hX := out_cplx hok
    generalize cplxOut l = X at *
    obtain ⟨hk1, hk2⟩ := cplx_self hX
    obtain ⟨hc1, hc2⟩ := cone_small X 9
    have hxl := rX.len
    have HX := Lib.hid hX
    have HK1 := Lib.hid hk1
    have HK2 := Lib.hid hk2
    have hlaw := fun ho : coneOk X 9 = true => cone_law hX ho
    have Hlaw := Lib.hid hlaw
    clear hok hX hk1 hk2 hlaw
    go_wp2_with fail
    refine (implComplexOf_c _ _ _ X _ rX (by omega) (by omega)).mono ?_
    rintro e w4 ⟨ya, yn, yc, rfl, hY0, hG4⟩
    rw [HK1.out]
    rw [HK2.out] at hY0
    have rY := hY0.rdII (S := fun _ => True) fun _ _ => trivial
    replace rX := rX.grow hG4
    replace hGt := hGt.trans hG4
    clear hY0 hG4
    go_wp2_with fail
    refine (implConeOver_c _ _ _ X 9 _ rX (by omega) (by omega) (by unfold I64; omega)).mono ?_
    rintro e w5 ⟨ca, cn, cc, rfl, hC0, hG5⟩
    have rC := hC0.rdII (S := fun _ => True) fun _ _ => trivial
    replace rX := rX.grow hG5
    replace rY := rY.grow hG5
    replace hGt := hGt.trans hG5
    have hcl := rC.len
    clear hC0 hG5
    cases ho : coneOk X 9 with
    | false =>
      go_wp2_with fail
      refine (implLinkOf_c _ _ _ _ 9 _ rC (by omega) (by omega)).mono ?_
      rintro e w6 ⟨ka, kn, kc, rfl, hL0, hG6⟩
      have rX2 := rX.grow hG6
      have rY2 := rY.grow hG6
      replace hGt := hGt.trans hG6
      clear hL0 rX rY
      go_wp2_with fail
      refine (implIsComplex_c _ _ _ X _ rX2 (by omega) (by omega)).mono ?_
      rintro e w8 ⟨rfl, hG8⟩
      rw [HX.out]
      go_wp2_with fail
      refine (specIsComplex_c _ _ _ X _ (rX2.grow hG8) (by omega) (by omega)).mono ?_
      rintro e w9 ⟨rfl, hG9⟩
      rw [HX.out]
      have rX3 := (rX2.grow hG8).grow hG9
      go_wp2_with fail
      refine (sameRows_t _ _ _ _ _ _ X _ rX3 ((rY2.grow hG8).grow hG9) (by omega) (by omega)).mono ?_
      rintro e w10 ⟨rfl, hQ10⟩
      have hG10 := hQ10.grow
      go_wp2
      go_ret
      exact ⟨rfl, ((hGt.trans hG8).trans hG9).trans hG10⟩
    | true =>
      obtain ⟨hl1, hl2, hl3⟩ := Hlaw.out ho
      go_wp2_with fail
      refine (implLinkOf_c _ _ _ _ 9 _ rC (by omega) (by omega)).mono ?_
      rintro e w6 ⟨ka, kn, kc, rfl, hL0, hG6⟩
      rw [hl3] at hL0
      have rL2 := hL0.rdII (S := fun _ => True) fun _ _ => trivial
      have rX2 := rX.grow hG6
      have rY2 := rY.grow hG6
      replace hGt := hGt.trans hG6
      replace rC := rC.grow hG6
      have Hl2 := Lib.hid hl2
      clear hL0 rX rY hl1 hl2 hl3
      go_wp2_with fail
      refine (implIsComplex_c _ _ _ X _ rX2 (by omega) (by omega)).mono ?_
      rintro e w8 ⟨rfl, hG8⟩
      rw [HX.out]
      go_wp2_with fail
      refine (specIsComplex_c _ _ _ X _ (rX2.grow hG8) (by omega) (by omega)).mono ?_
      rintro e w9 ⟨rfl, hG9⟩
      rw [HX.out]
      have rX3 := (rX2.grow hG8).grow hG9
      go_wp2_with fail
      refine (sameRows_t _ _ _ _ _ _ X _ rX3 ((rY2.grow hG8).grow hG9) (by omega) (by omega)).mono ?_
      rintro e w10 ⟨rfl, hQ10⟩
      have hG10 := hQ10.grow
      have hGx := (hG8.trans hG9).trans hG10
      go_wp2_with fail
      refine (implEulerOf_c _ _ _ _ _ (rC.grow hGx) (by omega) (by omega)).mono ?_
      rintro e w11 ⟨rfl, hG11⟩
      rw [Hl2.out]
      go_wp2_with fail
      refine (sameRows_t _ _ _ _ _ _ X _ (rL2.grow (hGx.trans hG11)) (rX2.grow (hGx.trans hG11)) (by have := rL2.len; omega) (by omega)).mono ?_
      rintro e w12 ⟨rfl, hQ12⟩
      go_wp2
      go_ret
      exact ⟨rfl, (hGt.trans (hGx.trans hG11)).trans hQ12.grow⟩
set_option maxRecDepth 100000 in
theorem lifted (os : Os) (started : os.Started) (H : Type) (enc : TypeId × Value → H) :
    ReturnsInHanded {} Try.checked os 4 .any (Rows.fnComplexesSpec.pre6 enc Try.prog Try.f4 Rows.fnComplexesRow.domain false) (Rows.fnComplexesSpec.post enc Try.prog Try.f4 false true false false) := by
  refine law_close (C := Try.checked) (tb := 4) P_own started (by kernel_rfl) Try.func4
    (ChangeSpec.witness6 (enc := enc) (C := Try.checked) false ⟨#[], #[.slice none 0 0], []⟩ 8 (by kernel_rfl) (by kernel_rfl) (by kernel_rfl) (by kernel_rfl))
    P_laid ?_ rfl Try.underlying4 rfl ?_ ?_
  · exact of_decide_eq_true (by kernel_rfl)
  · intro ds hds
    match ds, hds with
    | [d0], _ => rfl
  · intro W args ds ps hval0 hA0
    have hval : ∀ (j : Nat) t v, Try.f4.params[j]? = some t → args[j]? = some v → Value.okWide Try.prog W .any 0 t v := hval0
    have hA : DataW.TrodAll enc Try.prog W 0 (fun _ => true) true Try.f4.params.toList args.toList ds ps := hA0
    rw [Try.params4] at hA hval
    obtain ⟨v0, vs0, d0, ds0, p0, q0, hargs, rfl, rfl, h0, r0⟩ := trodAll_cons hA
    obtain ⟨rfl, rfl, rfl⟩ := trodAll_nil r0
    obtain rfl : args = #[v0] := by cases args; simp_all
    obtain ⟨x0a, x0n, x0c, x0, rfl, hx0⟩ := openB Try.underlying29 Try.underlying5 cells_u8 (hval 0 29 v0 rfl rfl) h0
    exact walk _ _ _ x0 W hx0

theorem proved : Rows.FnComplexesSaid :=
  OpenClaim.holds_of_wide 4 Try.f4 rfl rfl rfl rfl rfl rfl rfl ⟨rfl, rfl, rfl, rfl, rfl⟩ rfl rfl rfl rfl rfl (by kernel_rfl) Try.func4 (by kernel_rfl)
    (of_decide_eq_true (by kernel_rfl)) (by unfold Func.isWrapper; first | (rw [if_pos (by decide +kernel)]; kernel_rfl) | (rw [if_neg (by decide +kernel)]; exact ⟨rfl, rfl⟩))
    (fun os started H enc _ => lifted os started H enc)
end Go.Proofs.Yteianlmindckpaa.lawFnComplexes
