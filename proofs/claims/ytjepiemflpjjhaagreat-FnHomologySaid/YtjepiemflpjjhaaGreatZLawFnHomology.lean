/-
  The law FnHomology returns true for all arguments: infinite and finite groups by cycles over boundaries, by ranks and by the Smith form agree, and the infinite ones together, with signs, are the Euler number. No condition.
-/
import Derived.Test.YtjepiemflpjjhaaGreatZDraw
import Derived.Test.YtjepiemflpjjhaaGreatZSmD
set_option maxHeartbeats 8000000
set_option maxRecDepth 100000
namespace Go.Proofs.YtjepiemflpjjhaaGreat.lawFnHomology
open Go.ChangeShapes Go.WideShapes Go.ChangeAt Go.RowKit
theorem cells_u8 : Tryz.prog.cellsOf 5 = 1 := by kernel_rfl
theorem big_c (a : Option Addr) (n cap : Nat) (w : World) (b : Bool) (hb : decide (1048576 < n) = b) :
  Calls Tryz.prog 5 #[.slice a n cap] w fun e w' => e = .returned (.bool b) ∧ w = w' := by
 cases b with
 | true =>
  have h := of_decide_eq_true hb
  go_enter Tryz.func5, Tryz.ntmps5
  go_wp2
  go_ret
  exact ⟨ret_bool (by simp; omega), rfl⟩
 | false =>
  have h := of_decide_eq_false hb
  go_enter Tryz.func5, Tryz.ntmps5
  go_wp2
  go_ret
  exact ⟨ret_bool (by simp; omega), rfl⟩
theorem sameInts_t {S T : Nat → Prop} (a b : Option Addr) (n m cap cap' : Nat) (xs : List Int) (w : World) (h : RdI w S a n cap xs) (h' : RdI w T b m cap' xs) (hn : n ≤ 2097152) :
  Calls Tryz.prog 11 #[.slice a n cap, .slice b m cap'] w fun e w' => e = .returned (.bool true) ∧ Qt w w' := by
 have hl := h.len
 have hl' := h'.len
 obtain rfl : n = m := by omega
 go_enter Tryz.func11, Tryz.ntmps11
 go_wp2
 go_loopw [5] (fun i wr => Qt w wr ∧ ∃ k : Nat, k ≤ n ∧ i = .int .i64 k) (fun i _ => n - (intOf i).toNat)
 case atStart => exact ⟨Qt.refl _, 0, Nat.zero_le _, rfl⟩
 case round =>
  obtain ⟨hG, k, hk, rfl⟩ := hrel
  by_cases hlt : k < n
  ·obtain ⟨b1, off1, x, rfl, hx, hxr, _, hbw, hc⟩ := (h.grow hG.grow).at hlt
   obtain ⟨b2, off2, y, rfl, hy, hyr, _, hbw2, hc2⟩ := (h'.grow hG.grow).at hlt
   obtain rfl : x = y := Option.some.inj (hx.symm.trans hy)
   clear hx hy
   go_wp2
   go_quiet (fail)
   go_wp2
   go_roundw
   case rel => exact ⟨hG.drewN _, k + 1, by omega, by go_num⟩
   case measure => simp [intOf]; omega
  ·go_wp2
   go_ret
   exact ⟨rfl, hG⟩
theorem DrawHomologyOf_c {S : Nat → Prop} (a : Option Addr) (n cap : Nat) (bs : List Int) (w : World) (h : RdB w S a n cap bs) (hn : n ≤ 1048576) :
  Calls Tryz.prog 6 #[.slice a n cap] w fun e w' => ∃ a' m c' l, ∃ k : Nat, e = .returned (.tuple #[.slice a' m c', .int .i64 ((k : Int) - 1)]) ∧ RdII w' (fun q => w.heap.size ≤ q) a' m c' l ∧ m ≤ 96 ∧ (∀ s ∈ l, s.length ≤ 4) ∧ k ≤ 5 ∧ Grow w w' := by
 go_enter Tryz.func6, Tryz.ntmps6
 go_wp2_with fail
 refine (l33Draw_c _ _ _ bs _ h hn).mono ?_
 rintro e w1 ⟨a', m, c', l, k, rfl, hR, hm, h4, hk, hG⟩
 go_wp2
 go_ret2
 exact ⟨_, _, _, l, k, rfl, hR, hm, h4, hk, hG⟩
noncomputable def eAt (l : List (List Int)) : Nat → Int
 | 0 => 0
 | i + 1 => eAt l i + bqN l (i : Int) * (1 - 2 * ((i : Int) % 2))
theorem bq_rng {l : List (List Int)} {k : Int} (h : bqOk l k = true) : -48 ≤ bqN l k ∧ bqN l k ≤ 24 := by
 obtain ⟨-, -, h1, -, h2, h3, h4⟩ := bq_parts h
 have := boundq_rows h1
 have := ecT_le24 (boundB l k)
 have := ecT_le24 (boundB l (k + 1))
 omega
theorem eAt_rng {l : List (List Int)} : ∀ {i : Nat}, (∀ j : Nat, j < i → bqOk l (j : Int) = true) → -(48 * (i : Int)) ≤ eAt l i ∧ eAt l i ≤ 48 * i
 | 0, _ => by simp [eAt]
 | i + 1, h => by
  have ih := eAt_rng (i := i) fun j hj => h j (by omega)
  have h1 := bq_rng (h i (by omega))
  simp only [eAt]
  rcases Int.emod_two_eq (i : Int) with e | e <;> rw [e] <;> push_cast <;> omega
theorem eAt_four {l : List (List Int)} (h : ∀ j : Nat, j < 4 → bqOk l (j : Int) = true) : eAt l 4 = eulB l := by
 rw [← bet_euler (h 0 (by omega)) (h 1 (by omega)) (h 2 (by omega)) (h 3 (by omega))]
 simp only [eAt]
 have e : ∀ x : Int, x * (1 - 2 * 0) = x := fun x => by omega
 have e2 : ∀ x : Int, x * (1 - 2 * 1) = -x := fun x => by omega
 show 0 + bqN l 0 * (1 - 2 * (0 % 2)) + bqN l 1 * (1 - 2 * (1 % 2)) + bqN l 2 * (1 - 2 * (2 % 2)) + bqN l 3 * (1 - 2 * (3 % 2)) = _
 rw [show (0 : Int) % 2 = 0 from rfl, show (1 : Int) % 2 = 1 from rfl, show (2 : Int) % 2 = 0 from rfl, show (3 : Int) % 2 = 1 from rfl, e, e2, e, e2]
 omega
theorem walk (a : Option Addr) (n cap : Nat) (bs : List Int) (w : World) (h : RdB w (fun _ => True) a n cap bs) :
  Calls Tryz.prog 3 #[.slice a n cap] w fun e w' => e = .returned (.bool true) ∧ Grow w w' := by
 by_cases hbig : 1048576 < n
 ·go_enter Tryz.func3, Tryz.ntmps3
  go_wp2_with fail
  refine (big_c a n cap _ true (decide_eq_true hbig)).mono ?_
  rintro e _ ⟨rfl, rfl⟩
  go_wp2
  go_ret
  exact ⟨rfl, Grow.refl _⟩
 have hbg := decide_eq_false hbig
 go_enter Tryz.func3, Tryz.ntmps3
 go_wp2_with fail
 refine (big_c a n cap _ false hbg).mono ?_
 rintro e _ ⟨rfl, rfl⟩
 clear hbg
 go_wp2_with fail
 refine (DrawHomologyOf_c a n cap bs _ h (by omega)).mono ?_
 rintro e w1 ⟨la, m, lc, l, k, rfl, hR, hm, h4, hk, hG1⟩
 have hll := hR.len
 have hbl : bdII l ≤ 1048576 := by
  have := total_small h4
  unfold bdII; omega
 have hV : VII w1 (fun _ => True) (.slice la m lc) l := ⟨_, _, _, rfl, hR.weak fun _ _ _ => trivial⟩
 have hI : I64 ((k : Int) - 1) := by unfold I64; omega
 have Hbl := Lib.hid hbl
 clear hR h4 hm h hbl hll
 generalize (k : Int) - 1 = q at *
 go_wp2_with fail
 refine (implHomologyOf_v hV Hbl.out hI).mono ?_
 rintro e w2 ⟨x, rfl, hX0, hG2⟩
 go_wp2_with fail
 refine (specHomologyOf_v (hV.grow hG2) Hbl.out hI).mono ?_
 rintro e w3 ⟨y, rfl, -, hG3⟩
 obtain ⟨xa, xn, xc, rfl, rX⟩ := hX0.rd (S := fun _ => True) fun _ _ => trivial
 replace rX := rX.grow hG3
 replace hV := (hV.grow hG2).grow hG3
 replace hG1 := (hG1.trans hG2).trans hG3
 clear hX0 hG2 hG3
 obtain ⟨b1, hb1⟩ : ∃ b1, b1 = mqOk (homIs l q) (cycB l q) (bndB l q) := ⟨_, rfl⟩
 obtain ⟨N, hN⟩ : ∃ N, N = mqN (homIs l q) (cycB l q) (bndB l q) := ⟨_, rfl⟩
 obtain ⟨T, hT⟩ : ∃ T, T = mqB (homIs l q) (cycB l q) (bndB l q) := ⟨_, rfl⟩
 have hTb : T.length ≤ 1024 := by
  rw [hT]
  have := mqB_bd (homIs l q) (cycB l q) (bndB l q)
  unfold bdI at this; omega
 have Hno : Go.RowKit.Hid (b1 = false → N = 0 ∧ T = []) := Lib.hid (by rw [hb1, hN, hT]; exact hom_no)
 have Htor : Go.RowKit.Hid (b1 = true → torOk l q = true → T = torB l q) := Lib.hid (by rw [hb1, hT]; exact hom_tor)
 have Hbet : Go.RowKit.Hid (b1 = true → bqOk l q = true → bqN l q = N) := Lib.hid (by rw [hb1, hN]; exact hom_bet)
 rw [← hb1, ← hN]
 rw [← hT] at rX
 have hxl := rX.len
 clear hb1 hN hT
 cases b1 with
 | false =>
  obtain ⟨hn0, ht0⟩ := Hno.out rfl
  obtain rfl : xn = 0 := by rw [← hxl, ht0]; rfl
  subst hn0
  go_wp2_with fail
  refine (implBettiOf_v hV Hbl.out hI).mono ?_
  rintro e w4 ⟨rfl, hG4⟩
  go_wp2_with fail
  refine (implTorsionOf_v (hV.grow hG4) Hbl.out hI).mono ?_
  rintro e w5 ⟨r, rfl, -, hG5⟩
  go_wp2
  go_ret
  exact ⟨rfl, (hG1.trans hG4).trans hG5⟩
 | true =>
  go_wp2_with fail
  refine (implBettiOf_v hV Hbl.out hI).mono ?_
  rintro e w4 ⟨rfl, hG4⟩
  go_wp2_with fail
  refine (implTorsionOf_v (hV.grow hG4) Hbl.out hI).mono ?_
  rintro e w5 ⟨r, rfl, hU0, hG5⟩
  obtain ⟨ua, un, uc, rfl, rU⟩ := hU0.rd (S := fun _ => True) fun _ _ => trivial
  replace rX := (rX.grow hG4).grow hG5
  replace hV := (hV.grow hG4).grow hG5
  replace hG1 := (hG1.trans hG4).trans hG5
  have hul := rU.len
  clear hU0 hG4 hG5 Hno
  have Hbet2 := Lib.hid (Hbet.out (by first | rfl | trivial))
  have Htor2 := Lib.hid (Htor.out (by first | rfl | trivial))
  clear Hbet Htor
  obtain ⟨b2, hb2⟩ : ∃ b2, b2 = bqOk l q := ⟨_, rfl⟩
  obtain ⟨b3, hb3⟩ : ∃ b3, b3 = torOk l q := ⟨_, rfl⟩
  obtain ⟨B, hB⟩ : ∃ B, B = bqN l q := ⟨_, rfl⟩
  obtain ⟨U, hU⟩ : ∃ U, U = torB l q := ⟨_, rfl⟩
  replace Hbet2 : Go.RowKit.Hid (b2 = true → B = N) := Lib.hid (by rw [hb2, hB]; exact Hbet2.out)
  replace Htor2 : Go.RowKit.Hid (b3 = true → T = U) := Lib.hid (by rw [hb3, hU]; exact Htor2.out)
  rw [← hb2, ← hB, ← hb3]
  rw [← hU] at rU hul
  clear hb2 hb3 hB hU hI
  have Hxl := Lib.hid hxl
  have Hul := Lib.hid hul
  have Htb := Lib.hid hTb
  clear hxl hul hTb
  cases b2 <;> cases b3
  all_goals first
   | (have hBN := Hbet2.out rfl; subst hBN)
   | skip
  all_goals first
   | (have hTU := Htor2.out rfl
      subst hTU
      go_wp2_with fail
      refine (sameInts_t _ _ _ _ _ _ T _ rX rU (by have := Hxl.out; have := Htb.out; omega)).mono ?_
      rintro e w6 ⟨rfl, hQ6⟩
      have hVq := hV.grow hQ6.grow
      have hGq := hG1.trans hQ6.grow
      clear hQ6)
   | (have hVq := hV
      have hGq := hG1
      clear hG1)
  all_goals
   clear rX rU hV Hbet2 Htor2
   have he0 : (0 : Int) = eAt l 0 := rfl
   go_wp2
   go_loopw [15, 16, 17, 18] (fun ev iv _ _ wr => Grow _ wr ∧ ∃ i : Nat, i ≤ 4 ∧ iv = .int .i64 i ∧ ev = .int .i64 (eAt l i) ∧ ∀ j : Nat, j < i → bqOk l (j : Int) = true) (fun _ iv _ _ _ => 4 - (intOf iv).toNat)
   case atStart => exact ⟨Grow.refl _, 0, Nat.zero_le _, rfl, rfl, fun j hj => by omega⟩
   case round =>
    obtain ⟨hGr, i, hi, rfl, rfl, hall⟩ := hrel
    have hVr := hVq.grow hGr
    have Hall := Lib.hid hall; clear hall
    have Her := Lib.hid (eAt_rng Hall.out)
    by_cases hi4 : i < 4
    ·go_wp2_with fail
     refine (implBettiOf_v hVr Hbl.out (by unfold I64; omega)).mono ?_
     rintro e wb ⟨rfl, hGb⟩
     obtain ⟨bo, hbo⟩ : ∃ bo, bo = bqOk l (i : Int) := ⟨_, rfl⟩
     rw [← hbo]
     cases bo with
     | false =>
      clear hbo
      go_wp2
      go_ret
      exact ⟨rfl, (hGq.trans hGr).trans hGb⟩
     | true =>
      have hbr := bq_rng hbo.symm
      have hsu : eAt l (i + 1) = eAt l i + bqN l (i : Int) * (1 - 2 * ((i : Int) % 2)) := rfl
      have her := Her.out
      have h2 : (i : Int) % 2 = 0 ∨ (i : Int) % 2 = 1 := Int.emod_two_eq _
      have Hsu : Go.RowKit.Hid (wrap64 (eAt l i + wrap64 (bqN l (i : Int) * (1 - 2 * ((i : Int) % 2)))) = eAt l (i + 1)) := Lib.hid (by
       rw [hsu]
       rcases h2 with e | e
       ·rw [e, show (1 - 2 * 0 : Int) = 1 from rfl, Int.mul_one]; unfold wrap64; omega
       ·rw [e, show (1 - 2 * 1 : Int) = -1 from rfl, Int.mul_neg, Int.mul_one]; unfold wrap64; omega)
      have Hall2 := Lib.hid (show ∀ j : Nat, j < i + 1 → bqOk l (j : Int) = true from fun j hj => by
       by_cases e : j = i
       ·subst e; exact hbo.symm
       ·exact Hall.out j (by omega))
      clear hbo hbr hsu her h2 Her
      generalize hen : eAt l (i + 1) = en at *
      generalize eAt l i = ev at *
      generalize bqN l (i : Int) = bn at *
      go_wp2
      go_roundw
      case rel => exact ⟨hGr.trans hGb, i + 1, by omega, by go_num, by rw [Hsu.out, ← hen], Hall2.out⟩
      case measure => simp [intOf]; omega
    ·obtain rfl : i = 4 := by omega
     have He4 := Lib.hid (eAt_four Hall.out)
     go_wp2_with fail
     refine (implEulerOf_v hVr Hbl.out).mono ?_
     rintro e wb ⟨rfl, hGb⟩
     rw [He4.out]
     go_wp2
     go_ret
     exact ⟨ret_bool (by simp), (hGq.trans hGr).trans hGb⟩
theorem lifted (os : Os) (started : os.Started) (H : Type) (enc : TypeId × Value → H) :
  ReturnsInHanded {} Tryz.checked os 3 .any (Rows.fnHomologySpec.pre6 enc Tryz.prog Tryz.f3 Rows.fnHomologyRow.domain false) (Rows.fnHomologySpec.post enc Tryz.prog Tryz.f3 false true false false) := by
 refine law_close (C := Tryz.checked) (tb := 4) P_own started (by kernel_rfl) Tryz.func3
  (ChangeSpec.witness6 (enc := enc) (C := Tryz.checked) false ⟨#[], #[.slice none 0 0], []⟩ 8 (by kernel_rfl) (by kernel_rfl) (by kernel_rfl) (by kernel_rfl))
  P_laid ?_ rfl Tryz.underlying4 rfl ?_ ?_
 ·exact of_decide_eq_true (by kernel_rfl)
 ·intro ds hds
  match ds, hds with
  | [d0], _ => rfl
 ·intro W args ds ps hval0 hA0
  have hval : ∀ (j : Nat) t v, Tryz.f3.params[j]? = some t → args[j]? = some v → Value.okWide Tryz.prog W .any 0 t v := hval0
  have hA : DataW.TrodAll enc Tryz.prog W 0 (fun _ => true) true Tryz.f3.params.toList args.toList ds ps := hA0
  rw [Tryz.params3] at hA hval
  obtain ⟨v0, vs0, d0, ds0, p0, q0, hargs, rfl, rfl, h0, r0⟩ := trodAll_cons hA
  obtain ⟨rfl, rfl, rfl⟩ := trodAll_nil r0
  obtain rfl : args = #[v0] := by cases args; simp_all
  obtain ⟨x0a, x0n, x0c, x0, rfl, hx0⟩ := openB Tryz.underlying22 Tryz.underlying5 cells_u8 (hval 0 22 v0 rfl rfl) h0
  exact walk _ _ _ x0 W hx0
theorem proved : Rows.FnHomologySaid :=
 OpenClaim.holds_of_wide 3 Tryz.f3 rfl rfl rfl rfl rfl rfl rfl ⟨rfl, rfl, rfl, rfl, rfl⟩ rfl rfl rfl rfl rfl (by kernel_rfl) Tryz.func3 (by kernel_rfl)
  (of_decide_eq_true (by kernel_rfl)) (by unfold Func.isWrapper; first | (rw [if_pos (by decide +kernel)]; kernel_rfl) | (rw [if_neg (by decide +kernel)]; exact ⟨rfl, rfl⟩))
  (fun os started H enc _ => lifted os started H enc)
end Go.Proofs.YtjepiemflpjjhaaGreat.lawFnHomology
