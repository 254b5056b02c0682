/-
  The law FnUniversal returns true for all arguments: homology over the residues of a prime counts the infinite groups and those finite ones, of this and of the next lower dimension, whose orders the prime divides; groups of turned boundaries have the finite ones moved up by one. No condition.
-/
import Derived.Test.YtjepiemflpjjhaaGreatZDrawB
import Derived.Test.YtjepiemflpjjhaaGreatZSmD
set_option maxHeartbeats 8000000
set_option maxRecDepth 100000
namespace Go.Proofs.YtjepiemflpjjhaaGreat.lawFnUniversal
open Go.ChangeShapes Go.WideShapes Go.ChangeAt Go.RowKit
theorem cells_u8 : Tryz.prog.cellsOf 5 = 1 := by kernel_rfl
theorem big_c (a : Option Addr) (n cap : Nat) (w : World) (b : Bool) (hb : decide (1048576 < n) = b) :
  Calls Tryz.prog 5 #[.slice a n cap] w fun e w' => e = .returned (.bool b) ∧ w = w' := by
 cases b with
 | true =>
  have h := of_decide_eq_true hb
  go_enter Tryz.func5, Tryz.ntmps5
  go_wp2
  go_ret
  exact ⟨ret_bool (by simp; omega), rfl⟩
 | false =>
  have h := of_decide_eq_false hb
  go_enter Tryz.func5, Tryz.ntmps5
  go_wp2
  go_ret
  exact ⟨ret_bool (by simp; omega), rfl⟩
theorem sameInts_t {S T : Nat → Prop} (a b : Option Addr) (n m cap cap' : Nat) (xs : List Int) (w : World) (h : RdI w S a n cap xs) (h' : RdI w T b m cap' xs) (hn : n ≤ 2097152) :
  Calls Tryz.prog 11 #[.slice a n cap, .slice b m cap'] w fun e w' => e = .returned (.bool true) ∧ Qt w w' := by
 have hl := h.len
 have hl' := h'.len
 obtain rfl : n = m := by omega
 go_enter Tryz.func11, Tryz.ntmps11
 go_wp2
 go_loopw [5] (fun i wr => Qt w wr ∧ ∃ k : Nat, k ≤ n ∧ i = .int .i64 k) (fun i _ => n - (intOf i).toNat)
 case atStart => exact ⟨Qt.refl _, 0, Nat.zero_le _, rfl⟩
 case round =>
  obtain ⟨hG, k, hk, rfl⟩ := hrel
  by_cases hlt : k < n
  ·obtain ⟨b1, off1, x, rfl, hx, hxr, _, hbw, hc⟩ := (h.grow hG.grow).at hlt
   obtain ⟨b2, off2, y, rfl, hy, hyr, _, hbw2, hc2⟩ := (h'.grow hG.grow).at hlt
   obtain rfl : x = y := Option.some.inj (hx.symm.trans hy)
   clear hx hy
   go_wp2
   go_quiet (fail)
   go_wp2
   go_roundw
   case rel => exact ⟨hG.drewN _, k + 1, by omega, by go_num⟩
   case measure => simp [intOf]; omega
  ·go_wp2
   go_ret
   exact ⟨rfl, hG⟩
theorem zc_take {p : Int} {L : List Int} {i : Nat} {x : Int} (h : L[i]? = some x) : (zc p (L.take (i + 1)) : Int) = zc p (L.take i) + (if p ∣ x then 1 else 0) := by
 unfold zc
 rw [take_succ h, List.filter_append, List.length_append]
 by_cases e : p ∣ x
 ·rw [if_pos e]; simp [e]
 ·rw [if_neg e]; simp [e]
theorem zc_le (p : Int) (L : List Int) : zc p L ≤ L.length := List.length_filter_le _ _
theorem rem_dvd {p x : Int} (hp : p ≠ 0) : (x.tmod p == 0) = decide (p ∣ x) := by
 rw [Bool.eq_iff_iff]
 simp only [beq_iff_eq, decide_eq_true_eq]
 exact ⟨Int.dvd_of_tmod_eq_zero, Int.tmod_eq_zero_of_dvd⟩
theorem bet_rng {l : List (List Int)} {k p : Int} (h : betOk l k p = true) : -48 ≤ betN l k p ∧ betN l k p ≤ 24 := by
 have h0 := h
 obtain ⟨k0, k3, -, -, e, -⟩ := bet_parts h
 unfold betOk at h0
 simp only [Bool.and_eq_true] at h0
 have := bound_rows h0.2.1
 have := rkN_le (boundB l k) p
 have := rkN_le (boundB l (k + 1)) p
 omega
theorem hom_len (l : List (List Int)) (k : Int) : (homL l k).length ≤ 1024 := by
 have := mqB_bd (homIs l k) (cycB l k) (bndB l k)
 unfold bdI at this
 exact this
theorem walk (a : Option Addr) (n cap : Nat) (bs : List Int) (w : World) (h : RdB w (fun _ => True) a n cap bs) :
  Calls Tryz.prog 4 #[.slice a n cap] w fun e w' => e = .returned (.bool true) ∧ Grow w w' := by
 by_cases hbig : 1048576 < n
 ·go_enter Tryz.func4, Tryz.ntmps4
  go_wp2_with fail
  refine (big_c a n cap _ true (decide_eq_true hbig)).mono ?_
  rintro e _ ⟨rfl, rfl⟩
  go_wp2
  go_ret
  exact ⟨rfl, Grow.refl _⟩
 have hbg := decide_eq_false hbig
 go_enter Tryz.func4, Tryz.ntmps4
 go_wp2_with fail
 refine (big_c a n cap _ false hbg).mono ?_
 rintro e _ ⟨rfl, rfl⟩
 clear hbg
 go_wp2_with fail
 refine (DrawBettiMod_c a n cap bs _ h (by omega)).mono ?_
 rintro e w1 ⟨la, m, lc, l, k, p, rfl, hp, hR, hm, h4, hk, hG1⟩
 have hll := hR.len
 have hbl : bdII l ≤ 1048576 := by
  have := total_small h4
  unfold bdII; omega
 have hV : VII w1 (fun _ => True) (.slice la m lc) l := ⟨_, _, _, rfl, hR.weak fun _ _ _ => trivial⟩
 have hI : I64 ((k : Int) - 1) := by unfold I64; omega
 have hqr : -1 ≤ (k : Int) - 1 ∧ (k : Int) - 1 ≤ 4 := by omega
 have Hbl := Lib.hid hbl
 clear hR h4 hm h hbl hll hk
 generalize (k : Int) - 1 = q at *
 go_wp2_with fail
 refine (implBettiMod_v hV Hbl.out hI hp).mono ?_
 rintro e w2 ⟨rfl, hG2⟩
 go_wp2_with fail
 refine (specBettiMod_v (hV.grow hG2) Hbl.out hI hp).mono ?_
 rintro e w3 ⟨rfl, hG3⟩
 replace hV := (hV.grow hG2).grow hG3
 replace hG1 := (hG1.trans hG2).trans hG3
 clear hG2 hG3
 go_wp2_with fail
 refine (implHomologyOf_v hV Hbl.out hI).mono ?_
 rintro e w4 ⟨x, rfl, hX0, hG4⟩
 obtain ⟨xa, xn, xc, rfl, rX⟩ := hX0.rd (S := fun _ => True) fun _ _ => trivial
 replace hV := hV.grow hG4
 replace hG1 := hG1.trans hG4
 clear hX0 hG4
 obtain ⟨b1, hb1⟩ : ∃ b1, b1 = betOk l q p := ⟨_, rfl⟩
 obtain ⟨M, hM⟩ : ∃ M, M = betN l q p := ⟨_, rfl⟩
 obtain ⟨b2, hb2⟩ : ∃ b2, b2 = mqOk (homIs l q) (cycB l q) (bndB l q) := ⟨_, rfl⟩
 obtain ⟨N, hN⟩ : ∃ N, N = mqN (homIs l q) (cycB l q) (bndB l q) := ⟨_, rfl⟩
 obtain ⟨T, hT⟩ : ∃ T, T = mqB (homIs l q) (cycB l q) (bndB l q) := ⟨_, rfl⟩
 have Hno : Go.RowKit.Hid (b1 = false → M = 0) := Lib.hid (by rw [hb1, hM]; exact fun e => (bet_no e).2)
 have Hrng : Go.RowKit.Hid (b1 = true → -48 ≤ M ∧ M ≤ 24) := Lib.hid (by rw [hb1, hM]; exact bet_rng)
 have Hpr : Go.RowKit.Hid (b1 = true → 2 ≤ p ∧ p ≤ 10000) := Lib.hid (by rw [hb1]; exact fun e => prB_rng (bet_parts e).2.2.2.2.2)
 have Htl : Go.RowKit.Hid (T.length ≤ 1024) := Lib.hid (by rw [hT]; exact hom_len l q)
 rw [← hb1, ← hM, ← hb2, ← hN]
 rw [← hT] at rX
 have HB1 := Lib.hid hb1; have HM := Lib.hid hM; have HB2 := Lib.hid hb2; have HN := Lib.hid hN; have HT := Lib.hid hT
 clear hb1 hM hb2 hN hT
 have hGa := (Grow.refl w4).alloc #[] 3
 by_cases hq0 : 0 < q
 ·have Hq0 := Lib.hid hq0
  have hI1 : I64 (q - 1) := by unfold I64; omega
  go_wp2_with fail
  refine (implHomologyOf_v (hV.grow hGa) Hbl.out hI1).mono ?_
  rintro e w5 ⟨y, rfl, hY0, hG5⟩
  obtain ⟨sa, sn, sc, rfl, rS0⟩ := hY0.rd (S := fun _ => True) fun _ _ => trivial
  go_wp2_with fail
  refine (implCohomologyOf_v ((hV.grow hGa).grow hG5) Hbl.out hI).mono ?_
  rintro e wt ⟨z, rfl, hZ0, hG6⟩
  obtain ⟨ca, cn, cc, rfl, rC⟩ := hZ0.rd (S := fun _ => True) fun _ _ => trivial
  replace rX := ((rX.grow hGa).grow hG5).grow hG6
  have rS := rS0.grow hG6
  have hGt := ((hG1.trans hGa).trans hG5).trans hG6
  obtain ⟨b3, hb3⟩ : ∃ b3, b3 = mqOk (homIs l (q - 1)) (cycB l (q - 1)) (bndB l (q - 1)) := ⟨_, rfl⟩
  obtain ⟨Sl, hSl⟩ : ∃ Sl, Sl = mqB (homIs l (q - 1)) (cycB l (q - 1)) (bndB l (q - 1)) := ⟨_, rfl⟩
  have Hcnt : Go.RowKit.Hid (b1 = true → b2 = true → b3 = true → M = N + zc p T + zc p Sl) := Lib.hid (by
   rw [HB1.out, HB2.out, hb3, HM.out, HN.out, HT.out, hSl]
   intro e1 e2 e3
   have := uni_count e1 e2 (fun _ => e3)
   rw [if_pos Hq0.out] at this
   exact this)
  have Hcoh : Go.RowKit.Hid (b2 = true → b3 = true → mqOk (cohIs l q) (cohX l q) (cohY l q) = true → mqN (cohIs l q) (cohX l q) (cohY l q) = N ∧ mqB (cohIs l q) (cohX l q) (cohY l q) = Sl) := Lib.hid (by
   rw [HB2.out, hb3, HN.out, hSl]
   intro e2 e3 e4
   have := uni_coh e2 (fun _ => e3) e4
   rw [if_pos Hq0.out] at this
   exact this)
  have HSl : Go.RowKit.Hid (Sl.length ≤ 1024) := Lib.hid (by rw [hSl]; exact hom_len l (q - 1))
  rw [← hb3]
  rw [← hSl] at rS
  clear HB1 HM HB2 HN HT hb3 hSl hY0 hZ0 rS0 hV hG1 hGa hG5 hG6 hI hI1 hqr
  have hxl := rX.len
  have hsl := rS.len
  have hcl := rC.len
  obtain ⟨b4, hb4⟩ : ∃ b4, b4 = mqOk (cohIs l q) (cohX l q) (cohY l q) := ⟨_, rfl⟩
  obtain ⟨r, hr⟩ : ∃ r, r = mqN (cohIs l q) (cohX l q) (cohY l q) := ⟨_, rfl⟩
  obtain ⟨Cl, hCl⟩ : ∃ Cl, Cl = mqB (cohIs l q) (cohX l q) (cohY l q) := ⟨_, rfl⟩
  rw [← hb4, ← hr]
  rw [← hCl] at rC hcl
  have Hcoh2 : Go.RowKit.Hid (b2 = true → b3 = true → b4 = true → r = N ∧ Cl = Sl) := Lib.hid (by rw [hb4, hr, hCl]; exact Hcoh.out)
  clear hb4 hr hCl Hcoh
  have Hxl := Lib.hid hxl
  have Hsl := Lib.hid hsl
  have Hcl := Lib.hid hcl
  clear hxl hsl hcl
  cases b1 with
  | false =>
   have hM := Hno.out rfl
   subst hM
   go_wp2
   go_ret
   exact ⟨rfl, hGt⟩
  | true =>
   cases b2 with
   | false =>
    go_wp2
    go_ret
    exact ⟨rfl, hGt⟩
   | true =>
    cases b3 with
    | false =>
     go_wp2
     go_ret
     exact ⟨rfl, hGt⟩
    | true =>
     have hcnt := Hcnt.out rfl rfl rfl
     have hMr := Hrng.out rfl
     obtain ⟨hp2, hp3⟩ := Hpr.out rfl
     have hz1 := zc_le p T
     have hz2 := zc_le p Sl
     have hTl := Htl.out
     have hSl := HSl.out
     have hNr : -3000 ≤ N ∧ N ≤ 3000 := by omega
     have Hcn := Lib.hid hcnt
     have hT1 : xn ≤ 1024 := by have := Hxl.out; omega
     have hS1 : sn ≤ 1024 := by have := Hsl.out; omega
     have hC1 : b4 = true → r = N ∧ Cl = Sl := Hcoh2.out (by first | rfl | trivial) (by first | rfl | trivial)
     have HC1 := Lib.hid hC1
     clear hcnt hMr hz1 hz2 hTl hSl Hcnt Hrng Hpr Hno Hcoh2 hC1
     go_wp2
     have hx0 : N = N + zc p (T.take 0) := by
      have hz0 : zc p (T.take 0) = 0 := by unfold zc; rw [List.take_zero]; rfl
      rw [hz0]; exact (Int.add_zero N).symm
     have Hx0 := Lib.hid hx0
     clear hx0
     go_loopw [18, 19] (fun xv iv wr => wr = wt ∧ ∃ i : Nat, i ≤ xn ∧ iv = .int .i64 i ∧ xv = .int .i64 (N + zc p (T.take i))) (fun _ iv _ => xn - (intOf iv).toNat)
     case atStart => exact ⟨rfl, 0, Nat.zero_le _, rfl, by rw [← Hx0.out]⟩
     case round =>
      obtain ⟨hww, i, hi, rfl, rfl⟩ := hrel
      subst hww
      by_cases hlt : i < xn
      ·obtain ⟨bb, off, y, rfl, hy, hyr, _, hbw, hc⟩ := rX.at hlt
       have hzs := zc_take (p := p) hy
       have hzl := zc_le p (T.take i)
       have hzl2 : zc p (T.take i) ≤ 1024 := by have : (T.take i).length ≤ i := List.length_take_le _ _; omega
       have hrd : (y.tmod p == 0) = decide (p ∣ y) := rem_dvd (by omega)
       clear hy hzl
       by_cases hd : p ∣ y
       ·rw [decide_eq_true hd] at hrd
        rw [if_pos hd] at hzs
        have Hzs := Lib.hid hzs
        clear hzs hd
        generalize zc p (T.take i) = z0 at *
        go_wp2
        go_roundw
        case rel => exact ⟨trivial, i + 1, by omega, by go_num, by rw [Hzs.out, Int.add_assoc]⟩
        case measure => simp [intOf]; omega
       ·rw [decide_eq_false hd] at hrd
        rw [if_neg hd] at hzs
        have Hzs := Lib.hid hzs
        clear hzs hd
        generalize zc p (T.take i) = z0 at *
        go_wp2
        go_roundw
        case rel => exact ⟨trivial, i + 1, by omega, by go_num, by rw [Hzs.out, Int.add_zero]⟩
        case measure => simp [intOf]; omega
      ·obtain rfl : i = xn := by omega
       have hTt : T.take i = T := List.take_of_length_le (by rw [Hxl.out]; omega)
       rw [hTt]
       have hzT : zc p T ≤ 1024 := Nat.le_trans (zc_le p T) Htl.out
       clear hTt Hx0
       have Hy0 : Go.RowKit.Hid (N + (zc p T : Int) = N + zc p T + zc p (Sl.take 0)) := Lib.hid (by
        have hz0 : zc p (Sl.take 0) = 0 := by unfold zc; rw [List.take_zero]; rfl
        rw [hz0]; exact (Int.add_zero _).symm)
       generalize hzt : zc p T = zt at *
       clear hzt
       go_wp2
       go_loopw [18, 20] (fun xv iv v => v = wr ∧ ∃ j : Nat, j ≤ sn ∧ iv = .int .i64 j ∧ xv = .int .i64 (N + zt + zc p (Sl.take j))) (fun _ iv _ => sn - (intOf iv).toNat)
       case atStart => exact ⟨rfl, 0, Nat.zero_le _, rfl, by rw [← Hy0.out]⟩
       case round =>
        obtain ⟨hww, j, hj, rfl, rfl⟩ := hrel
        subst hww
        by_cases hlt2 : j < sn
        ·obtain ⟨bb, off, y, rfl, hy, hyr, _, hbw, hc⟩ := rS.at hlt2
         have hzs := zc_take (p := p) hy
         have hzl := zc_le p (Sl.take j)
         have hzl2 : zc p (Sl.take j) ≤ 1024 := by have : (Sl.take j).length ≤ j := List.length_take_le _ _; omega
         have hrd : (y.tmod p == 0) = decide (p ∣ y) := rem_dvd (by omega)
         clear hy hzl
         by_cases hd : p ∣ y
         ·rw [decide_eq_true hd] at hrd
          rw [if_pos hd] at hzs
          have Hzs := Lib.hid hzs
          clear hzs hd
          generalize zc p (Sl.take j) = z0 at *
          go_wp2
          go_roundw
          case rel => exact ⟨trivial, j + 1, by omega, by go_num, by rw [Hzs.out, Int.add_assoc]⟩
          case measure => simp [intOf]; omega
         ·rw [decide_eq_false hd] at hrd
          rw [if_neg hd] at hzs
          have Hzs := Lib.hid hzs
          clear hzs hd
          generalize zc p (Sl.take j) = z0 at *
          go_wp2
          go_roundw
          case rel => exact ⟨trivial, j + 1, by omega, by go_num, by rw [Hzs.out, Int.add_zero]⟩
          case measure => simp [intOf]; omega
        ·obtain rfl : j = sn := by omega
         have hSt : Sl.take j = Sl := List.take_of_length_le (by rw [Hsl.out]; omega)
         rw [hSt, ← Hcn.out]
         clear hSt Hy0 Hcn
         cases b4 with
         | false =>
          go_wp2
          go_ret
          exact ⟨ret_bool (by simp), hGt⟩
         | true =>
          obtain ⟨e1, e2⟩ := HC1.out rfl
          subst e1
          subst e2
          go_wp2_with fail
          refine (sameInts_t _ _ _ _ _ _ Cl _ rC rS (by have := Hcl.out; have := HSl.out; omega)).mono ?_
          rintro e w9 ⟨rfl, hQ9⟩
          go_wp2
          go_ret
          exact ⟨ret_bool (by simp), hGt.trans hQ9.grow⟩
 ·have Hq0 := Lib.hid hq0
  go_wp2_with fail
  refine (implCohomologyOf_v (hV.grow hGa) Hbl.out hI).mono ?_
  rintro e wt ⟨z, rfl, hZ0, hG6⟩
  obtain ⟨ca, cn, cc, rfl, rC⟩ := hZ0.rd (S := fun _ => True) fun _ _ => trivial
  replace rX := (rX.grow hGa).grow hG6
  have hGt := (hG1.trans hGa).trans hG6
  have rS : RdI wt (fun _ => True) (some ⟨w4.heap.size, 0, none⟩) 0 0 [] := ⟨Row.emptyAt, fun x hx => by cases hx⟩
  obtain ⟨Sl, hSl⟩ : ∃ Sl : List Int, Sl = [] := ⟨_, rfl⟩
  rw [← hSl] at rS
  obtain ⟨b3, hb3⟩ : ∃ b3, b3 = true := ⟨_, rfl⟩
  have Hcnt : Go.RowKit.Hid (b1 = true → b2 = true → b3 = true → M = N + zc p T + zc p Sl) := Lib.hid (by
   rw [HB1.out, HB2.out, HM.out, HN.out, HT.out, hSl]
   intro e1 e2 _
   have := uni_count e1 e2 (fun e => absurd e (by have := Hq0.out; omega))
   rw [if_neg (show ¬ 0 < q by have := Hq0.out; omega)] at this
   exact this)
  have Hcoh : Go.RowKit.Hid (b2 = true → b3 = true → mqOk (cohIs l q) (cohX l q) (cohY l q) = true → mqN (cohIs l q) (cohX l q) (cohY l q) = N ∧ mqB (cohIs l q) (cohX l q) (cohY l q) = Sl) := Lib.hid (by
   rw [HB2.out, HN.out, hSl]
   intro e2 _ e4
   have := uni_coh e2 (fun e => absurd e (by have := Hq0.out; omega)) e4
   rw [if_neg (show ¬ 0 < q by have := Hq0.out; omega)] at this
   exact this)
  have HSl : Go.RowKit.Hid (Sl.length ≤ 1024) := Lib.hid (by rw [hSl]; simp)
  subst hb3
  clear HB1 HM HB2 HN HT hSl hZ0 hV hG1 hGa hG6 hI hqr
  generalize (some ⟨w4.heap.size, 0, none⟩ : Option Addr) = sa at *
  have hxl := rX.len
  have hsl := rS.len
  have hcl := rC.len
  obtain ⟨b4, hb4⟩ : ∃ b4, b4 = mqOk (cohIs l q) (cohX l q) (cohY l q) := ⟨_, rfl⟩
  obtain ⟨r, hr⟩ : ∃ r, r = mqN (cohIs l q) (cohX l q) (cohY l q) := ⟨_, rfl⟩
  obtain ⟨Cl, hCl⟩ : ∃ Cl, Cl = mqB (cohIs l q) (cohX l q) (cohY l q) := ⟨_, rfl⟩
  rw [← hb4, ← hr]
  rw [← hCl] at rC hcl
  have Hcoh2 : Go.RowKit.Hid (b2 = true → true = true → b4 = true → r = N ∧ Cl = Sl) := Lib.hid (by rw [hb4, hr, hCl]; exact Hcoh.out)
  clear hb4 hr hCl Hcoh
  have Hxl := Lib.hid hxl
  have Hsl := Lib.hid hsl
  have Hcl := Lib.hid hcl
  clear hxl hsl hcl
  cases b1 with
  | false =>
   have hM := Hno.out rfl
   subst hM
   go_wp2
   go_ret
   exact ⟨rfl, hGt⟩
  | true =>
   cases b2 with
   | false =>
    go_wp2
    go_ret
    exact ⟨rfl, hGt⟩
   | true =>
    have hcnt := Hcnt.out rfl rfl rfl
    have hMr := Hrng.out rfl
    obtain ⟨hp2, hp3⟩ := Hpr.out rfl
    have hz1 := zc_le p T
    have hz2 := zc_le p Sl
    have hTl := Htl.out
    have hSl := HSl.out
    have hNr : -3000 ≤ N ∧ N ≤ 3000 := by omega
    have Hcn := Lib.hid hcnt
    have hT1 : xn ≤ 1024 := by have := Hxl.out; omega
    have hS1 : 0 ≤ 1024 := by have := Hsl.out; omega
    have hC1 : b4 = true → r = N ∧ Cl = Sl := Hcoh2.out (by first | rfl | trivial) (by first | rfl | trivial)
    have HC1 := Lib.hid hC1
    clear hcnt hMr hz1 hz2 hTl hSl Hcnt Hrng Hpr Hno Hcoh2 hC1
    go_wp2
    have hx0 : N = N + zc p (T.take 0) := by
     have hz0 : zc p (T.take 0) = 0 := by unfold zc; rw [List.take_zero]; rfl
     rw [hz0]; exact (Int.add_zero N).symm
    have Hx0 := Lib.hid hx0
    clear hx0
    go_loopw [18, 19] (fun xv iv wr => wr = wt ∧ ∃ i : Nat, i ≤ xn ∧ iv = .int .i64 i ∧ xv = .int .i64 (N + zc p (T.take i))) (fun _ iv _ => xn - (intOf iv).toNat)
    case atStart => exact ⟨rfl, 0, Nat.zero_le _, rfl, by rw [← Hx0.out]⟩
    case round =>
     obtain ⟨hww, i, hi, rfl, rfl⟩ := hrel
     subst hww
     by_cases hlt : i < xn
     ·obtain ⟨bb, off, y, rfl, hy, hyr, _, hbw, hc⟩ := rX.at hlt
      have hzs := zc_take (p := p) hy
      have hzl := zc_le p (T.take i)
      have hzl2 : zc p (T.take i) ≤ 1024 := by have : (T.take i).length ≤ i := List.length_take_le _ _; omega
      have hrd : (y.tmod p == 0) = decide (p ∣ y) := rem_dvd (by omega)
      clear hy hzl
      by_cases hd : p ∣ y
      ·rw [decide_eq_true hd] at hrd
       rw [if_pos hd] at hzs
       have Hzs := Lib.hid hzs
       clear hzs hd
       generalize zc p (T.take i) = z0 at *
       go_wp2
       go_roundw
       case rel => exact ⟨trivial, i + 1, by omega, by go_num, by rw [Hzs.out, Int.add_assoc]⟩
       case measure => simp [intOf]; omega
      ·rw [decide_eq_false hd] at hrd
       rw [if_neg hd] at hzs
       have Hzs := Lib.hid hzs
       clear hzs hd
       generalize zc p (T.take i) = z0 at *
       go_wp2
       go_roundw
       case rel => exact ⟨trivial, i + 1, by omega, by go_num, by rw [Hzs.out, Int.add_zero]⟩
       case measure => simp [intOf]; omega
     ·obtain rfl : i = xn := by omega
      have hTt : T.take i = T := List.take_of_length_le (by rw [Hxl.out]; omega)
      rw [hTt]
      have hzT : zc p T ≤ 1024 := Nat.le_trans (zc_le p T) Htl.out
      clear hTt Hx0
      have Hy0 : Go.RowKit.Hid (N + (zc p T : Int) = N + zc p T + zc p (Sl.take 0)) := Lib.hid (by
       have hz0 : zc p (Sl.take 0) = 0 := by unfold zc; rw [List.take_zero]; rfl
       rw [hz0]; exact (Int.add_zero _).symm)
      generalize hzt : zc p T = zt at *
      clear hzt
      go_wp2
      go_loopw [18, 20] (fun xv iv v => v = wr ∧ ∃ j : Nat, j ≤ 0 ∧ iv = .int .i64 j ∧ xv = .int .i64 (N + zt + zc p (Sl.take j))) (fun _ iv _ => 0 - (intOf iv).toNat)
      case atStart => exact ⟨rfl, 0, Nat.zero_le _, rfl, by rw [← Hy0.out]⟩
      case round =>
       obtain ⟨hww, j, hj, rfl, rfl⟩ := hrel
       subst hww
       by_cases hlt2 : j < 0
       ·omega
       ·obtain rfl : j = 0 := by omega
        have hSt : Sl.take 0 = Sl := List.take_of_length_le (by rw [Hsl.out]; omega)
        rw [hSt, ← Hcn.out]
        clear hSt Hy0 Hcn
        cases b4 with
        | false =>
         go_wp2
         go_ret
         exact ⟨ret_bool (by simp), hGt⟩
        | true =>
         obtain ⟨e1, e2⟩ := HC1.out rfl
         subst e1
         subst e2
         go_wp2_with fail
         refine (sameInts_t _ _ _ _ _ _ Cl _ rC rS (by have := Hcl.out; have := HSl.out; omega)).mono ?_
         rintro e w9 ⟨rfl, hQ9⟩
         go_wp2
         go_ret
         exact ⟨ret_bool (by simp), hGt.trans hQ9.grow⟩
theorem lifted (os : Os) (started : os.Started) (H : Type) (enc : TypeId × Value → H) :
  ReturnsInHanded {} Tryz.checked os 4 .any (Rows.fnUniversalSpec.pre6 enc Tryz.prog Tryz.f4 Rows.fnUniversalRow.domain false) (Rows.fnUniversalSpec.post enc Tryz.prog Tryz.f4 false true false false) := by
 refine law_close (C := Tryz.checked) (tb := 4) P_own started (by kernel_rfl) Tryz.func4
  (ChangeSpec.witness6 (enc := enc) (C := Tryz.checked) false ⟨#[], #[.slice none 0 0], []⟩ 8 (by kernel_rfl) (by kernel_rfl) (by kernel_rfl) (by kernel_rfl))
  P_laid ?_ rfl Tryz.underlying4 rfl ?_ ?_
 ·exact of_decide_eq_true (by kernel_rfl)
 ·intro ds hds
  match ds, hds with
  | [d0], _ => rfl
 ·intro W args ds ps hval0 hA0
  have hval : ∀ (j : Nat) t v, Tryz.f4.params[j]? = some t → args[j]? = some v → Value.okWide Tryz.prog W .any 0 t v := hval0
  have hA : DataW.TrodAll enc Tryz.prog W 0 (fun _ => true) true Tryz.f4.params.toList args.toList ds ps := hA0
  rw [Tryz.params4] at hA hval
  obtain ⟨v0, vs0, d0, ds0, p0, q0, hargs, rfl, rfl, h0, r0⟩ := trodAll_cons hA
  obtain ⟨rfl, rfl, rfl⟩ := trodAll_nil r0
  obtain rfl : args = #[v0] := by cases args; simp_all
  obtain ⟨x0a, x0n, x0c, x0, rfl, hx0⟩ := openB Tryz.underlying22 Tryz.underlying5 cells_u8 (hval 0 22 v0 rfl rfl) h0
  exact walk _ _ _ x0 W hx0
theorem proved : Rows.FnUniversalSaid :=
 OpenClaim.holds_of_wide 4 Tryz.f4 rfl rfl rfl rfl rfl rfl rfl ⟨rfl, rfl, rfl, rfl, rfl⟩ rfl rfl rfl rfl rfl (by kernel_rfl) Tryz.func4 (by kernel_rfl)
  (of_decide_eq_true (by kernel_rfl)) (by unfold Func.isWrapper; first | (rw [if_pos (by decide +kernel)]; kernel_rfl) | (rw [if_neg (by decide +kernel)]; exact ⟨rfl, rfl⟩))
  (fun os started H enc _ => lifted os started H enc)
end Go.Proofs.YtjepiemflpjjhaaGreat.lawFnUniversal
