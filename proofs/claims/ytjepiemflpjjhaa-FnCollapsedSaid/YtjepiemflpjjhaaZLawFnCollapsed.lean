/-
  The law FnCollapsed returns true for all arguments: what is collapsed is a complex with the same homology, and cannot be collapsed further. No condition.
-/
import Derived.Test.YtjepiemflpjjhaaZDraw
import Derived.Test.YtjepiemflpjjhaaZSmD
set_option maxHeartbeats 8000000
set_option maxRecDepth 100000
namespace Go.Proofs.Ytjepiemflpjjhaa.lawFnCollapsed
open Go.ChangeShapes Go.WideShapes Go.ChangeAt Go.RowKit
theorem cells_u8 : Try.prog.cellsOf 5 = 1 := by kernel_rfl
theorem big_c (a : Option Addr) (n cap : Nat) (w : World) (b : Bool) (hb : decide (1048576 < n) = b) :
  Calls Try.prog 4 #[.slice a n cap] w fun e w' => e = .returned (.bool b) ∧ w = w' := by
 cases b with
 | true =>
  have h := of_decide_eq_true hb
  go_enter Try.func4, Try.ntmps4
  go_wp2
  go_ret
  exact ⟨ret_bool (by simp; omega), rfl⟩
 | false =>
  have h := of_decide_eq_false hb
  go_enter Try.func4, Try.ntmps4
  go_wp2
  go_ret
  exact ⟨ret_bool (by simp; omega), rfl⟩
theorem sameInts_t {S T : Nat → Prop} (a b : Option Addr) (n m cap cap' : Nat) (xs : List Int) (w : World) (h : RdI w S a n cap xs) (h' : RdI w T b m cap' xs) (hn : n ≤ 2097152) :
  Calls Try.prog 9 #[.slice a n cap, .slice b m cap'] w fun e w' => e = .returned (.bool true) ∧ Qt w w' := by
 have hl := h.len
 have hl' := h'.len
 obtain rfl : n = m := by omega
 go_enter Try.func9, Try.ntmps9
 go_wp2
 go_loopw [5] (fun i wr => Qt w wr ∧ ∃ k : Nat, k ≤ n ∧ i = .int .i64 k) (fun i _ => n - (intOf i).toNat)
 case atStart => exact ⟨Qt.refl _, 0, Nat.zero_le _, rfl⟩
 case round =>
  obtain ⟨hG, k, hk, rfl⟩ := hrel
  by_cases hlt : k < n
  ·obtain ⟨b1, off1, x, rfl, hx, hxr, _, hbw, hc⟩ := (h.grow hG.grow).at hlt
   obtain ⟨b2, off2, y, rfl, hy, hyr, _, hbw2, hc2⟩ := (h'.grow hG.grow).at hlt
   obtain rfl : x = y := Option.some.inj (hx.symm.trans hy)
   clear hx hy
   go_wp2
   go_quiet (fail)
   go_wp2
   go_roundw
   case rel => exact ⟨hG.drewN _, k + 1, by omega, by go_num⟩
   case measure => simp [intOf]; omega
  ·go_wp2
   go_ret
   exact ⟨rfl, hG⟩
theorem sameRows_t {S T : Nat → Prop} (a b : Option Addr) (n m cap cap' : Nat) (xss : List (List Int)) (w : World) (h : RdII w S a n cap xss) (h' : RdII w T b m cap' xss) (hn : n ≤ 2097152) (ht : total xss ≤ 2097152) :
  Calls Try.prog 12 #[.slice a n cap, .slice b m cap'] w fun e w' => e = .returned (.bool true) ∧ Qt w w' := by
 have hl := h.len
 have hl' := h'.len
 obtain rfl : n = m := by omega
 go_enter Try.func12, Try.ntmps12
 go_wp2
 go_loopw [5] (fun i wr => Qt w wr ∧ ∃ k : Nat, k ≤ n ∧ i = .int .i64 k) (fun i _ => n - (intOf i).toNat)
 case atStart => exact ⟨Qt.refl _, 0, Nat.zero_le _, rfl⟩
 case round =>
  obtain ⟨hG, k, hk, rfl⟩ := hrel
  by_cases hlt : k < n
  ·obtain ⟨b1, off1, xs, a1, c1, rfl, hx, _, hbw, hc, hrd⟩ := (h.grow hG.grow).at hlt
   obtain ⟨b2, off2, ys, a2, c2, rfl, hy, _, hbw2, hc2, hrd2⟩ := (h'.grow hG.grow).at hlt
   obtain rfl : xs = ys := Option.some.inj (hx.symm.trans hy)
   clear hy
   have hxl : xs.length ≤ 2097152 := by have := total_at hx; omega
   have Hx := Lib.hid hx; clear hx
   go_wp2
   go_quiet ((go_at_call 9; exact Calls.quiet_qt (sameInts_t _ _ _ _ _ _ xs _ (hrd.grow ((Grow.refl _).drewN _)) (hrd2.grow ((Grow.refl _).drewN _)) hxl)))
   go_wp2
   go_roundw
   case rel => exact ⟨hG.drewN _, k + 1, by omega, by go_num⟩
   case measure => simp [intOf]; omega
  ·go_wp2
   go_ret
   exact ⟨rfl, hG⟩
theorem DrawCollapseOf_c {S : Nat → Prop} (a : Option Addr) (n cap : Nat) (bs : List Int) (w : World) (h : RdB w S a n cap bs) (hn : n ≤ 1048576) :
  Calls Try.prog 5 #[.slice a n cap] w fun e w' => ∃ a' m c' l, e = .returned (.slice a' m c') ∧ RdII w' (fun q => w.heap.size ≤ q) a' m c' l ∧ m ≤ 96 ∧ (∀ s ∈ l, s.length ≤ 4) ∧ Grow w w' := by
 go_enter Try.func5, Try.ntmps5
 go_wp2_with fail
 refine (l1New_c _ _ _ bs _ h (by omega)).mono ?_
 rintro e w1 ⟨g, hg, rfl, hC1, hG1⟩
 go_wp2_with fail
 refine (l32Complex_c g _ hC1).mono ?_
 rintro e w2 ⟨a', m, c', l, rfl, hR, hm, h4, hC2, hK2⟩
 have hs1 := hG1.size
 have hgl := hC1.lt
 go_wp2
 go_ret
 exact ⟨_, _, _, l, rfl, hR.weak (fun q _ hb => by omega), hm, h4, hG1.keep hK2 (fun q hq e => by omega)⟩
theorem hom_len (l : List (List Int)) (k : Int) : (homL l k).length ≤ 1024 := by
 have := mqB_bd (homIs l k) (cycB l k) (bndB l k)
 unfold bdI at this
 exact this
theorem walk (a : Option Addr) (n cap : Nat) (bs : List Int) (w : World) (h : RdB w (fun _ => True) a n cap bs) :
  Calls Try.prog 3 #[.slice a n cap] w fun e w' => e = .returned (.bool true) ∧ Grow w w' := by
 by_cases hbig : 1048576 < n
 ·go_enter Try.func3, Try.ntmps3
  go_wp2_with fail
  refine (big_c a n cap _ true (decide_eq_true hbig)).mono ?_
  rintro e _ ⟨rfl, rfl⟩
  go_wp2
  go_ret
  exact ⟨rfl, Grow.refl _⟩
 have hbg := decide_eq_false hbig
 go_enter Try.func3, Try.ntmps3
 go_wp2_with fail
 refine (big_c a n cap _ false hbg).mono ?_
 rintro e _ ⟨rfl, rfl⟩
 clear hbg
 go_wp2_with fail
 refine (DrawCollapseOf_c a n cap bs _ h (by omega)).mono ?_
 rintro e w1 ⟨la, m, lc, l, rfl, hR, hm, h4, hG1⟩
 have hll := hR.len
 have htl : total l ≤ 384 := by have := total_small h4; omega
 have rL : RdII w1 (fun _ => True) la m lc l := hR.weak fun _ _ _ => trivial
 have hxb := collapseB_bd l
 unfold bdII at hxb
 clear hR h4 h
 go_wp2_with fail
 refine (implCollapseOf_c _ _ _ l _ rL (by omega) (by omega)).mono ?_
 rintro e w2 ⟨xa, xn, xc, rfl, hX0, hG2⟩
 have rX := hX0.rdII (S := fun _ => True) fun _ _ => trivial
 go_wp2_with fail
 refine (specCollapseOf_c _ _ _ l _ (rL.grow hG2) (by omega) (by omega)).mono ?_
 rintro e w3 ⟨ta, tn, tc, rfl, -, hG3⟩
 replace rL := (rL.grow hG2).grow hG3
 replace rX := rX.grow hG3
 replace hG1 := (hG1.trans hG2).trans hG3
 have hxl := rX.len
 clear hX0 hG2 hG3
 cases hC : isCplxB l with
 | false =>
  have h0 : xn = 0 := by rw [← hxl]; unfold collapseB; rw [hC]; rfl
  subst h0
  go_wp2
  go_ret
  exact ⟨rfl, hG1⟩
 | true =>
  obtain ⟨c1, c2, c3, c4⟩ := coll_all hC
  have Hx := Lib.hid c1
  have He := Lib.hid c2
  have Hxx := Lib.hid c3
  have Hh : Go.RowKit.Hid (∀ k : Int, 0 ≤ k → homY l k = true → homY (collapseB l) k = true → homN l k = homN (collapseB l) k ∧ homL l k = homL (collapseB l) k) := Lib.hid fun k => c4
  clear c1 c2 c3 c4 hC
  generalize collapseB l = X at *
  go_wp2_with fail
  refine (implCollapseOf_c _ _ _ X _ rX (by omega) (by omega)).mono ?_
  rintro e w4 ⟨ya, yn, yc, rfl, hY0, hG4⟩
  rw [Hx.out]
  rw [Hxx.out] at hY0
  have rY := hY0.rdII (S := fun _ => True) fun _ _ => trivial
  replace rL := rL.grow hG4
  replace rX := rX.grow hG4
  replace hG1 := hG1.trans hG4
  have hyl := rY.len
  have Hll := Lib.hid hll; have Hxl := Lib.hid hxl; have Hyl := Lib.hid hyl
  have hm1 : xn ≤ 480 := by omega
  have hm2 : yn ≤ 480 := by omega
  have htx : total X ≤ 768 := by omega
  clear hY0 hG4 hll hxl hyl hxb
  go_wp2
  go_loopw [10, 11, 12, 13, 14, 15, 16] (fun kv _ _ _ _ _ _ wr => Grow w4 wr ∧ ∃ k : Nat, k ≤ 4 ∧ kv = .int .i64 k) (fun kv _ _ _ _ _ _ _ => 4 - (intOf kv).toNat)
  case atStart => exact ⟨Grow.refl _, 0, Nat.zero_le _, rfl⟩
  case round =>
   obtain ⟨hGr, k, hk, rfl⟩ := hrel
   have rL2 := rL.grow hGr
   have rX2 := rX.grow hGr
   have rY2 := rY.grow hGr
   by_cases hk4 : k < 4
   ·have hVL : VII _ (fun _ => True) (.slice la m lc) l := ⟨_, _, _, rfl, rL2⟩
    have hVX : VII _ (fun _ => True) (.slice xa xn xc) X := ⟨_, _, _, rfl, rX2⟩
    have hb1 : bdII l ≤ 1048576 := by unfold bdII; have := Hll.out; omega
    have hb2 : bdII X ≤ 1048576 := by unfold bdII; have := Hxl.out; omega
    have hI : I64 (k : Int) := by unfold I64; omega
    have Hk := Lib.hid (Hh.out (k : Int) (by omega))
    go_wp2_with fail
    refine (implHomologyOf_v hVL hb1 hI).mono ?_
    rintro e w5 ⟨s, rfl, hS0, hG5⟩
    obtain ⟨sa, sn, sc, rfl, rS⟩ := hS0.rd (S := fun _ => True) fun _ _ => trivial
    go_wp2_with fail
    refine (implHomologyOf_v (hVX.grow hG5) hb2 hI).mono ?_
    rintro e w6 ⟨u, rfl, hU0, hG6⟩
    obtain ⟨ua, un, uc, rfl, rU⟩ := hU0.rd (S := fun _ => True) fun _ _ => trivial
    replace rS := rS.grow hG6
    have hGq := (hGr.trans hG5).trans hG6
    obtain ⟨b1, hb1⟩ : ∃ b1, b1 = mqOk (homIs l (k : Int)) (cycB l (k : Int)) (bndB l (k : Int)) := ⟨_, rfl⟩
    obtain ⟨b2, hb2⟩ : ∃ b2, b2 = mqOk (homIs X (k : Int)) (cycB X (k : Int)) (bndB X (k : Int)) := ⟨_, rfl⟩
    obtain ⟨N1, hN1⟩ : ∃ N, N = mqN (homIs l (k : Int)) (cycB l (k : Int)) (bndB l (k : Int)) := ⟨_, rfl⟩
    obtain ⟨N2, hN2⟩ : ∃ N, N = mqN (homIs X (k : Int)) (cycB X (k : Int)) (bndB X (k : Int)) := ⟨_, rfl⟩
    obtain ⟨T1, hT1⟩ : ∃ T, T = mqB (homIs l (k : Int)) (cycB l (k : Int)) (bndB l (k : Int)) := ⟨_, rfl⟩
    obtain ⟨T2, hT2⟩ : ∃ T, T = mqB (homIs X (k : Int)) (cycB X (k : Int)) (bndB X (k : Int)) := ⟨_, rfl⟩
    have Hk2 : Go.RowKit.Hid (b1 = true → b2 = true → N1 = N2 ∧ T1 = T2) := Lib.hid (by rw [hb1, hb2, hN1, hN2, hT1, hT2]; exact Hk.out)
    have hTl : T1.length ≤ 1024 := by rw [hT1]; exact hom_len l (k : Int)
    have hsl := rS.len
    rw [← hT1] at rS hsl
    rw [← hT2] at rU
    rw [← hb1, ← hb2, ← hN1, ← hN2]
    have hsn : sn ≤ 1024 := by omega
    clear hb1 hb2 hN1 hN2 hT1 hT2 Hk hTl hsl hS0 hU0 hG5 hG6 hVL hVX hI
    cases b1 with
    | false =>
     go_wp2
     go_roundw
     case rel => exact ⟨hGq, k + 1, by omega, by go_num⟩
     case measure => simp [intOf]; omega
    | true =>
     cases b2 with
     | false =>
      go_wp2
      go_roundw
      case rel => exact ⟨hGq, k + 1, by omega, by go_num⟩
      case measure => simp [intOf]; omega
     | true =>
      obtain ⟨e1, e2⟩ := Hk2.out rfl rfl
      subst e1
      subst e2
      go_wp2_with fail
      refine (sameInts_t _ _ _ _ _ _ T1 _ rS rU (by omega)).mono ?_
      rintro e w7 ⟨rfl, hQ7⟩
      go_wp2
      go_roundw
      case rel => exact ⟨hGq.trans hQ7.grow, k + 1, by omega, by go_num⟩
      case measure => simp [intOf]; omega
   ·go_wp2_with fail
    refine (implIsComplex_c _ _ _ X _ rX2 (by omega) (by omega)).mono ?_
    rintro e w5 ⟨rfl, hG5⟩
    rw [Hx.out]
    go_wp2_with fail
    refine (specIsComplex_c _ _ _ X _ (rX2.grow hG5) (by omega) (by omega)).mono ?_
    rintro e w6 ⟨rfl, hG6⟩
    rw [Hx.out]
    have hG56 := hG5.trans hG6
    go_wp2_with fail
    refine (sameRows_t _ _ _ _ _ _ X _ (rX2.grow hG56) (rY2.grow hG56) (by omega) (by omega)).mono ?_
    rintro e w7 ⟨rfl, hQ7⟩
    have hG57 := hG56.trans hQ7.grow
    go_wp2_with fail
    refine (implEulerOf_c _ _ _ X _ (rX2.grow hG57) (by omega) (by omega)).mono ?_
    rintro e w8 ⟨rfl, hG8⟩
    rw [He.out]
    have hG58 := hG57.trans hG8
    go_wp2_with fail
    refine (specEulerOf_c _ _ _ l _ (rL2.grow hG58) (by omega) (by omega)).mono ?_
    rintro e w9 ⟨rfl, hG9⟩
    go_wp2
    go_ret
    exact ⟨ret_bool (by simp), (hG1.trans hGr).trans (hG58.trans hG9)⟩
theorem lifted (os : Os) (started : os.Started) (H : Type) (enc : TypeId × Value → H) :
  ReturnsInHanded {} Try.checked os 3 .any (Rows.fnCollapsedSpec.pre6 enc Try.prog Try.f3 Rows.fnCollapsedRow.domain false) (Rows.fnCollapsedSpec.post enc Try.prog Try.f3 false true false false) := by
 refine law_close (C := Try.checked) (tb := 4) P_own started (by kernel_rfl) Try.func3
  (ChangeSpec.witness6 (enc := enc) (C := Try.checked) false ⟨#[], #[.slice none 0 0], []⟩ 8 (by kernel_rfl) (by kernel_rfl) (by kernel_rfl) (by kernel_rfl))
  P_laid ?_ rfl Try.underlying4 rfl ?_ ?_
 ·exact of_decide_eq_true (by kernel_rfl)
 ·intro ds hds
  match ds, hds with
  | [d0], _ => rfl
 ·intro W args ds ps hval0 hA0
  have hval : ∀ (j : Nat) t v, Try.f3.params[j]? = some t → args[j]? = some v → Value.okWide Try.prog W .any 0 t v := hval0
  have hA : DataW.TrodAll enc Try.prog W 0 (fun _ => true) true Try.f3.params.toList args.toList ds ps := hA0
  rw [Try.params3] at hA hval
  obtain ⟨v0, vs0, d0, ds0, p0, q0, hargs, rfl, rfl, h0, r0⟩ := trodAll_cons hA
  obtain ⟨rfl, rfl, rfl⟩ := trodAll_nil r0
  obtain rfl : args = #[v0] := by cases args; simp_all
  obtain ⟨x0a, x0n, x0c, x0, rfl, hx0⟩ := openB Try.underlying22 Try.underlying5 cells_u8 (hval 0 22 v0 rfl rfl) h0
  exact walk _ _ _ x0 W hx0
theorem proved : Rows.FnCollapsedSaid :=
 OpenClaim.holds_of_wide 3 Try.f3 rfl rfl rfl rfl rfl rfl rfl ⟨rfl, rfl, rfl, rfl, rfl⟩ rfl rfl rfl rfl rfl (by kernel_rfl) Try.func3 (by kernel_rfl)
  (of_decide_eq_true (by kernel_rfl)) (by unfold Func.isWrapper; first | (rw [if_pos (by decide +kernel)]; kernel_rfl) | (rw [if_neg (by decide +kernel)]; exact ⟨rfl, rfl⟩))
  (fun os started H enc _ => lifted os started H enc)
end Go.Proofs.Ytjepiemflpjjhaa.lawFnCollapsed
