/-
  The law FnGradients returns true for all arguments: a gradient that is made is one, and its critical simplices are at least as many as the infinite groups and have the same Euler number. No condition.
-/
import Derived.Test.YteijmppjdljedaaZDraw
import Derived.Test.YteijmppjdljedaaZGradP
import Derived.Test.YteijmppjdljedaaZGradI
import Derived.Test.YteijmppjdljedaaZGradS
import Derived.Test.YteijmppjdljedaaZInts
namespace Go.Proofs.Yteijmppjdljedaa.lawFnGradients
open Go.ChangeShapes Go.WideShapes Go.ChangeAt Go.RowKit

theorem cells_u8 : Try.prog.cellsOf 5 = 1 := by kernel_rfl
set_option maxHeartbeats 400000 in
theorem big_c (a : Option Addr) (n cap : Nat) (w : World) (b : Bool) (hb : decide (1048576 < n) = b) :
    Calls Try.prog 4 #[.slice a n cap] w fun e w' => e = .returned (.bool b) ∧ w = w' := by
  cases b with
  | true =>
    have h := of_decide_eq_true hb
    go_enter Try.func4, Try.ntmps4
    go_wp2
    go_ret
    exact ⟨ret_bool (by simp; omega), rfl⟩
  | false =>
    have h := of_decide_eq_false hb
    go_enter Try.func4, Try.ntmps4
    go_wp2
    go_ret
    exact ⟨ret_bool (by simp; omega), rfl⟩
set_option maxHeartbeats 4000000 in
set_option maxRecDepth 100000 in
theorem walk (a : Option Addr) (n cap : Nat) (bs : List Int) (w : World) (h : RdB w (fun _ => True) a n cap bs) :
    Calls Try.prog 3 #[.slice a n cap] w fun e w' => e = .returned (.bool true) ∧ Grow w w' := by
  by_cases hbig : 1048576 < n
  · go_enter Try.func3, Try.ntmps3
    go_wp2_with fail
    refine (big_c a n cap _ true (decide_eq_true hbig)).mono ?_
    rintro e _ ⟨rfl, rfl⟩
    go_wp2
    go_ret
    exact ⟨rfl, Grow.refl _⟩
  have hbg := decide_eq_false hbig
  go_enter Try.func3, Try.ntmps3
  go_wp2_with fail
  refine (big_c a n cap _ false hbg).mono ?_
  rintro e _ ⟨rfl, rfl⟩
  clear hbg
  go_wp2_with fail
  refine (DrawGradientOf_c a n cap bs _ h (by omega)).mono ?_
  rintro e w1 ⟨la, m, lc, l, rfl, hR, hm, h4, hG1⟩
  have hll := hR.len
  have htl : total l ≤ 384 := by have := total_small h4; omega
  have rL : RdII w1 (fun _ => True) la m lc l := hR.weak fun _ _ _ => trivial
  have hbA := grad_bd l
  have hbA2 := grad_len l
  have hcl := crit_len (l := l)
  have hcr4 := crit_small (l := l) h4
  clear hR h4 h
  go_wp2_with fail
  refine (implGradientOf_c _ _ _ l _ rL (by omega) (by omega)).mono ?_
  rintro e w2 ⟨aa, an, ac, rfl, hA0, hG2⟩
  have rA := hA0.rdA (S := fun _ => True) fun _ _ => trivial
  have hal := hA0.len
  replace rL := rL.grow hG2
  replace hG1 := hG1.trans hG2
  clear hA0 hG2
  cases hC : isCplxB l with
  | false =>
    have h0 : an = 0 := by rw [← hal, crit_no hC]; rfl
    subst h0
    go_wp2_with fail
    refine (specGradientOf_c _ _ _ l _ rL (by omega) (by omega)).mono ?_
    rintro e w3 ⟨ta, tn, tc, rfl, _, hG3⟩
    rw [hC]
    go_wp2_with fail
    refine (implCriticalOf_c _ _ _ _ _ _ l _ _ (rL.grow hG3) (rA.grow hG3) (by omega) (by omega) (by omega) (by omega)).mono ?_
    rintro e w4 ⟨ka, kn, kc, rfl, _, hG4⟩
    go_wp2
    go_ret
    exact ⟨rfl, (hG1.trans hG3).trans hG4⟩
  | true =>
    have hgr := grad_is hC
    have hcnt := crit_count hC
    have heul := crit_euler hC
    have hbet := fun (k : Nat) (hk : k < 4) hb => crit_betti hC (k := k) hk hb
    go_wp2_with fail
    refine (specGradientOf_c _ _ _ l _ rL (by omega) (by omega)).mono ?_
    rintro e w3 ⟨ta, tn, tc, rfl, _, hG3⟩
    rw [hC]
    go_wp2_with fail
    refine (implCriticalOf_c _ _ _ _ _ _ l _ _ (rL.grow hG3) (rA.grow hG3) (by omega) (by omega) (by omega) (by omega)).mono ?_
    rintro e w4 ⟨ka, kn, kc, rfl, hK0, hG4⟩
    rw [hgr]
    have hkl := hK0.len
    replace rL := (rL.grow hG3).grow hG4
    replace rA := (rA.grow hG3).grow hG4
    have rK := hK0.rdII (S := fun _ => True) fun _ _ => trivial
    replace hG1 := (hG1.trans hG3).trans hG4
    clear hK0 hG3 hG4 hC
    generalize gradOut l = ar at *
    generalize critB l ar = cr at *
    have Hgr := Lib.hid hgr
    have Heul := Lib.hid heul
    have Hbet := Lib.hid hbet
    have Hcnt := Lib.hid hcnt
    have Hal := Lib.hid hal
    have Hkl := Lib.hid hkl
    have Hll := Lib.hid hll
    have hsum : kn + 2 * an = m := by omega
    clear hgr heul hbet hcnt hal hkl
    go_wp2_with fail
    refine (implIsGradient_c _ _ _ _ _ _ l ar _ rL rA (by omega) (by omega) (by have := Hal.out; omega) (by omega)).mono ?_
    rintro e w5 ⟨rfl, hG5⟩
    rw [Hgr.out]
    go_wp2_with fail
    refine (specIsGradient_c _ _ _ _ _ _ l ar _ (rL.grow hG5) (rA.grow hG5) (by omega) (by omega) (by have := Hal.out; omega) (by omega)).mono ?_
    rintro e w6 ⟨rfl, hG6⟩
    rw [Hgr.out]
    replace hG1 := (hG1.trans hG5).trans hG6
    replace rL := (rL.grow hG5).grow hG6
    replace rK := (rK.grow hG5).grow hG6
    have hw1 : IntKind.i64.wrap (2 * (an : Int)) = 2 * (an : Int) := IntWalk.i64_in _ (by omega)
    have hw2 : IntKind.i64.wrap ((kn : Int) + 2 * (an : Int)) = (kn : Int) + 2 * (an : Int) := IntWalk.i64_in _ (by omega)
    have hne : ((kn : Int) + 2 * (an : Int) != (m : Int)) = false := by rw [bne_eq_false_iff_eq]; omega
    have hkm : kn ≤ 96 := by omega
    clear rA hG5 hG6 hsum hbA hbA2 hcl
    have hmk := T_ints.make (n := 4) (by omega) (by unfold maxLen; omega)
    have hmk2 : ∀ u : World, (Instr.makeSlice 32 (.int .i64 4) (.int .i64 4)).run Try.prog u = .ok (.slice (some ⟨u.heap.size, 0, none⟩) 4 4) (u.alloc (.cells (madeCells #[.int .i64 0] (4 * 1)) 3)) := hmk
    clear hmk
    go_wp2
    clear hw1 hw2 hne hmk2
    have hO := Own.fresh (w := w6) (e := 3) (sz := 1) (cs := madeCells #[.int .i64 0] 4) (n := 4) (by unfold maxLen; omega) (by simp [madeCells])
    rw [toList_madeCells_one] at hO
    have hGa := (Grow.refl w6).alloc (madeCells #[.int .i64 0] 4) 3
    obtain ⟨g, hg⟩ : ∃ g, g = w6.heap.size := ⟨_, rfl⟩
    rw [← hg] at hO ⊢
    replace rL := (rL.weak (T := fun q => blk (some (⟨g, 0, none⟩ : Addr)) ≠ some q) (fun b hb _ => by simp only [blk, ne_eq, Option.some.injEq]; omega)).grow hGa
    replace rK := (rK.weak (T := fun q => blk (some (⟨g, 0, none⟩ : Addr)) ≠ some q) (fun b hb _ => by simp only [blk, ne_eq, Option.some.injEq]; omega)).grow hGa
    have hwg : w.heap.size ≤ g := by rw [hg]; exact hG1.size
    replace hG1 := hG1.trans hGa
    have hO0 : Own (w6.alloc (.cells (madeCells #[.int .i64 0] 4) 3)) 3 1 (some ⟨g, 0, none⟩) 4 4 (ints (cntG (cr.take 0))) := hO
    clear hGa hO hg
    generalize w6.alloc (.cells (madeCells #[.int .i64 0] 4) 3) = w7 at *
    have he0 : (0 : Int) = eulS (cr.take 0) := rfl
    go_loopw [10, 12] (fun ev iv wr => Keep (fun q => blk (some (⟨g, 0, none⟩ : Addr)) ≠ some q) w7 wr ∧ ∃ k : Nat, k ≤ kn ∧ iv = .int .i64 k ∧ ev = .int .i64 (eulS (cr.take k)) ∧ Own wr 3 1 (some ⟨g, 0, none⟩) 4 4 (ints (cntG (cr.take k)))) (fun _ iv _ => kn - (intOf iv).toNat)
    case atStart => exact ⟨Keep.refl _ _, 0, Nat.zero_le _, rfl, rfl, hO0⟩
    case round =>
      obtain ⟨hK, k, hk, rfl, rfl, hO⟩ := hrel
      by_cases hlt : k < kn
      · obtain ⟨b1, off1, xs, a1, c1, rfl, hx, _, hbw, hc, hrd⟩ := (rK.keep hK fun _ _ h => h).at hlt
        have hrl := hrd.len
        have hs := eulS_rng cr k
        have hsn := eulS_snoc hx
        have hcn := cntG_snoc (cr.take k) xs
        rw [← take_succ hx] at hcn
        have hj4 : (xs.length + 3) % 4 < 4 := Nat.mod_lt _ (by omega)
        have hcx := hO.cell (j := (xs.length + 3) % 4) (c := .int .i64 (cntAt (cr.take k) ((xs.length + 3) % 4))) (by unfold ints; rw [List.getElem?_map, cntG_at _ hj4]; rfl)
        have hfr := hO.free ((xs.length + 3) % 4)
        have hpb := hO.lt (g := g) rfl
        have hcl := cntAt_le (cr.take k) ((xs.length + 3) % 4)
        have hsx := sign_at xs
        have hO9 := (hO.set ((xs.length + 3) % 4) (.int .i64 ((cntAt (cr.take k) ((xs.length + 3) % 4) : Int) + 1))).grow (Grow.refl _).drew
        rw [← ints_set, ← hcn] at hO9
        have hK9 := (hK.setCell (p := ⟨g, (xs.length + 3) % 4, none⟩) (fun _ e => e rfl) (.int .i64 ((cntAt (cr.take k) ((xs.length + 3) % 4) : Int) + 1))).drew
        obtain ⟨b2, off2, xs2, a2, c2, he2, hx2, -, hbw9, hc9, -⟩ := (rK.keep hK9 fun _ _ h => h).at hlt
        cases he2
        obtain rfl : xs = xs2 := Option.some.inj (hx.symm.trans hx2)
        have hx4 : xs.length ≤ 384 := by
          have h8 := hcr4 xs (List.mem_of_getElem? hx)
          omega
        have u3 : IntKind.i64.wrap (2 * ((xs.length : Int) % 2)) = 2 * ((xs.length : Int) % 2) := IntWalk.i64_in _ (by omega)
        have u4 : IntKind.i64.wrap (eulS (cr.take k) + 2 * ((xs.length : Int) % 2)) = eulS (cr.take k) + 2 * ((xs.length : Int) % 2) := IntWalk.i64_in _ (by omega)
        have u5 : IntKind.i64.wrap (eulS (cr.take k) + 2 * ((xs.length : Int) % 2) - 1) = eulS (cr.take (k + 1)) := by
          rw [IntWalk.i64_in _ (by omega), hsn, hsx]; omega
        have u1 : IntKind.i64.wrap ((xs.length : Int) + 3) = (xs.length : Int) + 3 := IntWalk.i64_in _ (by omega)
        have hjc : ((xs.length : Int) + 3) % 4 = ((xs.length + 3) % 4 : Nat) := by omega
        have hcb : cntAt (cr.take k) ((xs.length + 3) % 4) ≤ 96 := by
          have h8 : (cr.take k).length ≤ cr.length := by simp; omega
          have h9 := Hkl.out
          omega
        clear hsx hsn hcn hx hx2 hO hK hrl hrd
        generalize (xs.length + 3) % 4 = j at *
        generalize xs.length = q at *
        generalize cntAt (cr.take k) j = ct at *
        have u2 : IntKind.i64.wrap ((ct : Int) + 1) = (ct : Int) + 1 := IntWalk.i64_in _ (by omega)
        simp only at hcx hfr
        go_wp2
        go_region
        generalize (wr.setCell ⟨g, j, none⟩ (.int .i64 ((ct : Int) + 1))).drew = w9 at *
        clear hbw hc hcx hfr hpb
        generalize eulS (cr.take k) = ek at *
        go_wp2
        go_roundw
        case rel => exact ⟨hK9, k + 1, by omega, by go_num, rfl, hO9⟩
        case measure => simp [intOf]; omega
      · have hkk : k = kn := by omega
        subst hkk
        have hct : cr.take k = cr := List.take_of_length_le (by rw [Hkl.out]; omega)
        rw [hct] at hO ⊢
        have rL2 := (rL.keep hK fun _ _ h => h).weak (T := fun _ => True) fun _ _ _ => trivial
        have hGe : Grow w wr := hG1.keep hK fun q hq e => by
          have := Option.some.inj e
          simp at this
          omega
        have hel := eulS_rng cr k
        rw [hct, Heul.out] at hel
        rw [Heul.out]
        clear hK rL rK hO0 he0 hct hG1 hcr4
        go_wp2
        go_loopw [13, 14, 15] (fun kv _ _ v => Grow wr v ∧ ∃ i : Nat, i ≤ 4 ∧ kv = .int .i64 i) (fun kv _ _ _ => 4 - (intOf kv).toNat)
        case atStart => exact ⟨Grow.refl _, 0, Nat.zero_le _, rfl⟩
        case round =>
          obtain ⟨hGr, i, hi, rfl⟩ := hrel
          have hV : VII _ (fun _ => True) (.slice la m lc) l := ⟨_, _, _, rfl, rL2.grow hGr⟩
          have hbl : bdII l ≤ 1048576 := by unfold bdII; omega
          by_cases hi4 : i < 4
          · have hbt := Hbet.out i hi4
            go_wp2_with fail
            refine (implBettiOf_v hV hbl (by unfold I64; omega)).mono ?_
            rintro e w12 ⟨rfl, hG12⟩
            have hO12 := (hO.grow hGr).grow hG12
            have hcx := hO12.cell (j := i) (c := .int .i64 (cntAt cr i)) (by unfold ints; rw [List.getElem?_map, cntG_at _ hi4]; rfl)
            simp only at hcx
            cases hbk : bqOk l (i : Int) with
            | false =>
              go_wp2
              go_roundw
              case rel => exact ⟨hGr.trans hG12, i + 1, by omega, by go_num⟩
              case measure => simp [intOf]; omega
            | true =>
              have hle := hbt hbk
              generalize bqN l (i : Int) = bn at *
              generalize cntAt cr i = ct at *
              have hlt2 : ¬ ((ct : Int) < bn) := by omega
              clear hbt
              go_wp2
              go_roundw
              case rel => exact ⟨hGr.trans hG12, i + 1, by omega, by go_num⟩
              case measure => simp [intOf]; omega
          · go_wp2_with fail
            refine (implEulerOf_v hV hbl).mono ?_
            rintro e w12 ⟨rfl, hG12⟩
            go_wp2
            go_ret
            exact ⟨ret_bool (by simp), (hGe.trans hGr).trans hG12⟩
set_option maxRecDepth 100000 in
theorem lifted (os : Os) (started : os.Started) (H : Type) (enc : TypeId × Value → H) :
    ReturnsInHanded {} Try.checked os 3 .any (Rows.fnGradientsSpec.pre6 enc Try.prog Try.f3 Rows.fnGradientsRow.domain false) (Rows.fnGradientsSpec.post enc Try.prog Try.f3 false true false false) := by
  refine law_close (C := Try.checked) (tb := 4) P_own started (by kernel_rfl) Try.func3
    (ChangeSpec.witness6 (enc := enc) (C := Try.checked) false ⟨#[], #[.slice none 0 0], []⟩ 8 (by kernel_rfl) (by kernel_rfl) (by kernel_rfl) (by kernel_rfl))
    P_laid ?_ rfl Try.underlying4 rfl ?_ ?_
  · exact of_decide_eq_true (by kernel_rfl)
  · intro ds hds
    match ds, hds with
    | [d0], _ => rfl
  · intro W args ds ps hval0 hA0
    have hval : ∀ (j : Nat) t v, Try.f3.params[j]? = some t → args[j]? = some v → Value.okWide Try.prog W .any 0 t v := hval0
    have hA : DataW.TrodAll enc Try.prog W 0 (fun _ => true) true Try.f3.params.toList args.toList ds ps := hA0
    rw [Try.params3] at hA hval
    obtain ⟨v0, vs0, d0, ds0, p0, q0, hargs, rfl, rfl, h0, r0⟩ := trodAll_cons hA
    obtain ⟨rfl, rfl, rfl⟩ := trodAll_nil r0
    obtain rfl : args = #[v0] := by cases args; simp_all
    obtain ⟨x0a, x0n, x0c, x0, rfl, hx0⟩ := openB Try.underlying22 Try.underlying5 cells_u8 (hval 0 22 v0 rfl rfl) h0
    exact walk _ _ _ x0 W hx0

theorem proved : Rows.FnGradientsSaid :=
  OpenClaim.holds_of_wide 3 Try.f3 rfl rfl rfl rfl rfl rfl rfl ⟨rfl, rfl, rfl, rfl, rfl⟩ rfl rfl rfl rfl rfl (by kernel_rfl) Try.func3 (by kernel_rfl)
    (of_decide_eq_true (by kernel_rfl)) (by unfold Func.isWrapper; first | (rw [if_pos (by decide +kernel)]; kernel_rfl) | (rw [if_neg (by decide +kernel)]; exact ⟨rfl, rfl⟩))
    (fun os started H enc _ => lifted os started H enc)
end Go.Proofs.Yteijmppjdljedaa.lawFnGradients
