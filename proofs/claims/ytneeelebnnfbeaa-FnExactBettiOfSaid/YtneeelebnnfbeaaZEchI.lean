/-
  The program's EchelonOf: how many pivots; RankOf.
-/
import Derived.Test.YtneeelebnnfbeaaZPrim
import Derived.Test.YtneeelebnnfbeaaZResF
import Derived.Test.YtneeelebnnfbeaaZInts
set_option maxHeartbeats 8000000
set_option maxRecDepth 100000
namespace Go.Proofs.Ytneeelebnnfbeaa
open Go.RowKit
theorem echR_no {m : Mat} (h : isMatB m = false) : echR m = none := by unfold echR; rw [h]; rfl
theorem echR_mat {R C : Nat} {cells : List Int} (hB : isMatB { rows := (R : Int), cols := (C : Int), cells := cells } = true) : echR { rows := (R : Int), cols := (C : Int), cells := cells } = ecN C R C 0 0 (primAll cells C R) := by unfold echR; rw [hB]; rfl
theorem iEchelon_mat {S : Nat → Prop} (a : Option Addr) (n cp C R : Nat) (m : List Int) (w : World) (h : RdI w S a n cp m) (hl : m.length = R * C) (hm : NumL m) (hR : R ≤ 24) (hC : C ≤ 24) :
  Calls Try.prog 24 #[.agg #[.int .i64 R, .int .i64 C, .slice a n cp]] w fun e w' => ∃ x y sa sn sc pa pc, e = .returned (.tuple #[.agg #[.int .i64 x, .int .i64 y, .slice sa sn sc], .slice pa (ecT { rows := (R : Int), cols := (C : Int), cells := m }) pc, .bool (ecOk { rows := (R : Int), cols := (C : Int), cells := m })]) ∧ Grow w w' := by
 have hnl : m.length = n := h.len
 have hRC : R * C ≤ 24 * 24 := Nat.mul_le_mul hR hC
 have Hn := Lib.hid (show R * C = n by rw [← hnl, hl])
 have hn576 : n ≤ 576 := by omega
 have hBm := isMatB_ok hR hC hl hm
 have HB := Lib.hid hBm
 obtain ⟨w2, hw2⟩ : ∃ w2, w2 = (w.alloc (.cells #[.int .i64 (R : Int), .int .i64 (C : Int), .slice a n cp] 32)).alloc (.cells #[.int .i64 0, .int .i64 0, .slice none 0 0] 32) := ⟨_, rfl⟩
 have hG2 : Grow w w2 := by rw [hw2]; exact ((Grow.refl w).alloc _ _).alloc _ _
 have bM : Blk w2 w.heap.size #[.int .i64 (R : Int), .int .i64 (C : Int), .slice a n cp] 32 := by rw [hw2]; exact (Blk.new w _ _).alloc _
 have bZ : Blk w2 (w.heap.size + 1) #[.int .i64 0, .int .i64 0, .slice none 0 0] 32 := by rw [hw2]; exact Blk.newAt _ _ _ (by simp)
 have hVM : VM w2 S (.agg #[.int .i64 (R : Int), .int .i64 (C : Int), .slice a n cp]) { rows := (R : Int), cols := (C : Int), cells := m } := ⟨a, n, cp, rfl, h.grow hG2, by unfold I64; simp only; omega, by unfold I64; simp only; omega⟩
 have hbd : bdM { rows := (R : Int), cols := (C : Int), cells := m } ≤ 1048576 := by unfold bdM; simp only; omega
 have Hw2 := Lib.hid hw2
 have hsz2 : w2.heap.size = w.heap.size + 1 + 1 := by rw [hw2]; simp
 clear hw2
 obtain ⟨res, hres⟩ : ∃ res, res = ecN C R C 0 0 (primAll m C R) := ⟨_, rfl⟩
 have HT0 := Lib.hid (fun h0 : res = none => ec_none (m := { rows := (R : Int), cols := (C : Int), cells := m }) (by rw [echR_mat hBm, ← hres]; exact h0))
 have HT1 := Lib.hid (fun (t : Nat) (x : List Int) (h0 : res = some (t, x)) => ec_some (m := { rows := (R : Int), cols := (C : Int), cells := m }) (t := t) (x := x) (by rw [echR_mat hBm, ← hres]; exact h0))
 generalize ecT { rows := (R : Int), cols := (C : Int), cells := m } = eT at *
 generalize ecOk { rows := (R : Int), cols := (C : Int), cells := m } = eO at *
 clear hRC hnl h hBm
 go_enter Try.func24, Try.ntmps24
 go_wp2_with fail
 rw [← Hw2.out]
 refine (isMatrix_c hVM (by omega)).mono ?_
 rintro e w3 ⟨rfl, hG3⟩
 rw [HB.out]
 have bM3 := bM.grow hG3
 have hVM3 := hVM.grow hG3
 obtain ⟨⟨a0, a1, a2⟩, -⟩ := bM3.three
 have hltM3 := bM3.lt
 go_wp2_with fail
 refine (copyMatrix_c hVM3 hbd).mono ?_
 rintro e w4 ⟨rv, rfl, hR4, hG4⟩
 obtain ⟨ra, rn, rc, rfl, oR, rR, fR, i1, i2⟩ := hR4
 simp only at oR rR i1 i2
 have hrn0 : m.length = rn := by simpa [ints] using oR.len
 have hrn : rn = n := by rw [← hrn0, hl]; exact Hn.out
 clear hrn0
 subst hrn
 obtain ⟨w5, hw5⟩ : ∃ w5, w5 = (w4.alloc (.cells #[.int .i64 (R : Int), .int .i64 (C : Int), .slice ra rn rc] 32)).alloc (.cells #[] 3) := ⟨_, rfl⟩
 have hG5 : Grow w4 w5 := by rw [hw5]; exact ((Grow.refl w4).alloc _ _).alloc _ _
 have bO5 : Blk w5 w4.heap.size #[.int .i64 (R : Int), .int .i64 (C : Int), .slice ra rn rc] 32 := by rw [hw5]; exact (Blk.new w4 _ _).alloc _
 have oP5 : Own w5 3 1 (some ⟨w4.heap.size + 1, 0, none⟩) 0 0 [] := by rw [hw5]; exact Own.freshAt (cs := #[]) (by simp) (by unfold maxLen; omega) rfl
 have hO5 := oR.grow hG5
 have hs3 := hG3.size
 have hlo : ∀ g, blk ra = some g → w2.heap.size ≤ g := fun g hg => by have := (fR g hg).1; omega
 have hlt4 : ∀ g, blk ra = some g → g < w4.heap.size := fun g hg => (fR g hg).2
 have hs4 := hG4.size
 have hs5 : w5.heap.size = w4.heap.size + 1 + 1 := by rw [hw5]; simp
 have bZ5 := ((bZ.grow hG3).grow hG4).grow hG5
 have hG15 := ((hG2.trans hG3).trans hG4).trans hG5
 have Hw5 := Lib.hid hw5
 have Hm := Lib.hid hm; have Hml := Lib.hid hl
 clear hw5 oR hVM hVM3 hbd bZ bM bM3 a0 a1 a2 hm hl
 go_wp2
 rw [← Hw5.out]
 go_loopw [7] (fun q wr => Keep (fun g => blk ra ≠ some g ∧ g ≤ w4.heap.size + 1) w5 wr ∧ ∃ i : Nat, i ≤ R ∧ q = .int .i64 i ∧ Own wr 3 1 ra rn rc (ints (primAll m C i))) (fun q _ => R - (intOf q).toNat)
 case atStart => exact ⟨Keep.refl _ _, 0, Nat.zero_le _, rfl, hO5⟩
 case round =>
  clear hO5
  obtain ⟨wp, rfl⟩ : ∃ wp, wp = wr := ⟨_, rfl⟩
  obtain ⟨hKa, i, hi, rfl, hO⟩ := hrel
  have bOr := bO5.keep hKa ⟨fun e => by have := hlt4 _ e; omega, by omega⟩
  obtain ⟨⟨o0, o1, o2⟩, -⟩ := bOr.three
  have hzl : (primAll m C i).length = R * C := by rw [primAll_len]; exact Hml.out
  have hzn := primAll_num (C := C) Hm.out i
  by_cases hiR : i < R
  ·have hri := row_le hzl hiR
   rw [hzl, Hn.out] at hri
   have Hst := Lib.hid (show primAll m C (i + 1) = primR (primAll m C i) C i from rfl)
   generalize primAll m C i = z at *
   go_wp2_with fail
   refine (row_c ra rn rc C i (R : Int) z _ hO hri (by omega) (by omega)).mono ?_
   rintro e w6 ⟨a1, rfl, hA, hG6⟩
   have hO6 := hO.grow hG6
   go_wp2_with fail
   refine (iPrim_c ra a1 rn rc C i R z _ hO6 hzl hiR hzn hR hC hA).mono ?_
   rintro e w7 ⟨rfl, hO7, hK7⟩
   rw [← Hst.out] at hO7
   have hKb := (hKa.trans hG6.any).trans (hK7.mono fun g _ (hg : blk ra ≠ some g ∧ g ≤ w4.heap.size + 1) => hg.1)
   clear o0 o1 o2
   go_wp2
   go_roundw
   case rel => exact ⟨hKb, i + 1, by omega, by go_num, hO7⟩
   case measure => simp [intOf]; omega
  ·obtain rfl : R = i := by omega
   have hP0 := oP5.keep hKa (fun g hg _ => ⟨fun e => by simp at hg; have := hlt4 g e; omega, by simp at hg; omega⟩)
   have hK0 : Keep (fun g => blk ra ≠ some g ∧ g ≤ w4.heap.size) w5 wp := hKa.mono fun g _ hg => ⟨hg.1, by omega⟩
   go_wp2
   clear o0 o1 o2 hKa bOr
   go_loopw [6, 8] (fun pv jv wr => Keep (fun g => blk ra ≠ some g ∧ g ≤ w4.heap.size) w5 wr ∧ ∃ (t j pc : Nat) (x L : List Int) (pa : Option Addr), t ≤ R ∧ j ≤ C ∧ pv = .slice pa t pc ∧ jv = .int .i64 j ∧ Own wr 3 1 pa t pc (ints L) ∧ (∀ g, blk pa = some g → w4.heap.size < g) ∧ Own wr 3 1 ra rn rc (ints x) ∧ x.length = R * C ∧ NumL x ∧ ecN C R (C - j) j t x = res) (fun _ jv _ => C - (intOf jv).toNat)
   case atStart => exact ⟨hK0, 0, 0, 0, _, [], _, Nat.zero_le _, Nat.zero_le _, rfl, rfl, by simpa [ints] using hP0, (fun g hg => by simp at hg; omega), hO, hzl, hzn, hres.symm⟩
   case round =>
    clear hO hzl hzn hres hP0 hK0
    obtain ⟨wo, rfl⟩ : ∃ wo, wo = wr := ⟨_, rfl⟩
    obtain ⟨hK, t, j, pc, x, L, pa, ht, hj, rfl, rfl, hP, hPlo, hO, hxl, hx, hre⟩ := hrel
    have Hre := Lib.hid hre; have Hxl := Lib.hid hxl
    clear hre hxl
    have bOr := bO5.keep hK ⟨fun e => by have := hlt4 _ e; omega, Nat.le_refl _⟩
    obtain ⟨⟨o0, o1, o2⟩, -⟩ := bOr.three
    by_cases hjC : j < C
    ·obtain ⟨K, hKK⟩ : ∃ K, K = elK x C j (R - t) t := ⟨_, rfl⟩
     have Hsk := Lib.hid (show K = R → ecN C R (C - (j + 1)) (j + 1) t x = res from fun e => by
      by_cases htR : t < R
      ·rw [← Hre.out, show C - j = (C - (j + 1)) + 1 by omega, ecN_skip htR hKK e]
      ·rw [← Hre.out, ecN_full htR, ecN_full htR])
     have Hst0 := Lib.hid (show t < R → K ≠ R → ecElim C j t R (elM1 x C t K) = none → res = none from fun h0 e h1 => by rw [← Hre.out, show C - j = (C - (j + 1)) + 1 by omega, ecN_none h0 hKK e h1])
     have Hst1 := Lib.hid (show ∀ y, t < R → K ≠ R → ecElim C j t R (elM1 x C t K) = some y → ecN C R (C - (j + 1)) (j + 1) (t + 1) y = res from fun y h0 e h1 => by rw [← Hre.out, show C - j = (C - (j + 1)) + 1 by omega, ecN_some h0 hKK e h1])
     go_wp2
     go_loopw [10] (fun q u => Grow wo u ∧ ∃ k : Nat, t ≤ k ∧ k ≤ R ∧ q = .int .i64 k ∧ elK x C j (R - k) k = K) (fun q _ => R - (intOf q).toNat)
     case atStart => exact ⟨Grow.refl _, t, Nat.le_refl _, by omega, rfl, hKK.symm⟩
     case round =>
      clear hKK
      obtain ⟨u, rfl⟩ : ∃ u, u = wr := ⟨_, rfl⟩
      obtain ⟨hGu, k, htk, hk, rfl, hek⟩ := hrel
      have Hek := Lib.hid hek; clear hek
      have hOu := hO.grow hGu
      have hPu := hP.grow hGu
      have bOu := bOr.grow hGu
      have hKu := hK.trans hGu.any
      clear o0 o1 o2
      obtain ⟨⟨o0, o1, o2⟩, -⟩ := bOu.three
      have rdu := hOu.rdI (S := fun _ => True) (fun _ _ => trivial) (num_rng hx)
      by_cases hkR : k < R
      ·have htR : t < R := by omega
       have hni : k * C + j < rn := by rw [← Hn.out]; exact place_lt hjC hkR
       have hgc : x[k * C + j]? = some (cell x C k j) := get_cell (by rw [Hxl.out]; exact place_lt hjC hkR)
       go_wp2_with fail
       refine (at_c ra rn rc C k j _ (R : Int) _ x _ rdu rfl hgc (by omega) (by omega) (by omega) (by omega)).mono ?_
       rintro e w8 ⟨rfl, hG8⟩
       have hKu5 := hKu.trans hG8.any
       have hOq := hOu.grow hG8
       have hPq := hPu.grow hG8
       have bO8 := bOu.grow hG8
       have hGu5 := hGu.trans hG8
       clear o0 o1 o2 hgc hni rdu
       by_cases hx0 : cell x C k j = 0
       ·have HE := Lib.hid (show elK x C j (R - (k + 1)) (k + 1) = K by rw [← Hek.out, show R - k = (R - (k + 1)) + 1 by omega, elK_zero hx0])
        rw [hx0]
        go_wp2
        go_roundw
        case rel => exact ⟨hGu5, k + 1, by omega, by omega, by go_num, HE.out⟩
        case measure => simp [intOf]; omega
       ·have hkK : K = k := by rw [← Hek.out, elK_hit hx0]
        have e0 : (cell x C k j == 0) = false := by simp [hx0]
        have HS0 := Lib.hid (show ecElim C j t R (elM1 x C t k) = none → res = none by rw [← hkK]; exact Hst0.out htR (by omega))
        have HS1 := Lib.hid (show ∀ y, ecElim C j t R (elM1 x C t k) = some y → ecN C R (C - (j + 1)) (j + 1) (t + 1) y = res by rw [← hkK]; exact fun y => Hst1.out y htR (by omega))
        have hne : ¬ ((R : Int) ≤ (k : Int)) := by omega
        obtain ⟨⟨o0, o1, o2⟩, -⟩ := bO8.three
        clear hkK Hst0 Hst1 Hsk Hek hx0 Hre
        go_upto_if 63 with fail
        go_cut [] from 35 to 133 (fun wx => Keep (fun g => blk ra ≠ some g ∧ g ≤ w4.heap.size) w5 wx ∧ Own wx 3 1 pa t pc (ints L) ∧ Own wx 3 1 ra rn rc (ints (elM1 x C t k)))
        case first =>
         by_cases hkt : k = t
         ·have q1 : ((k : Int) != (t : Int)) = false := by simp [hkt]
          have He := Lib.hid (show elM1 x C t k = x by unfold elM1; rw [if_pos hkt])
          clear hkt
          go_wp2
          go_meet
          exact ⟨hKu5, hPq, by rw [He.out]; exact hOq⟩
         ·have q1 : ((k : Int) != (t : Int)) = true := by simp; omega
          have He := Lib.hid (show elM1 x C t k = swR x C k t by unfold elM1; rw [if_neg hkt])
          go_wp2_with fail
          refine (rowOpSwap_c ra rn rc C k t R 0 x _ hOq Hxl.out hkR htR hkt (by omega) (by omega) (by omega)).mono ?_
          rintro e w9 ⟨rfl, hO9, hK9⟩
          clear o0 o1 o2
          go_wp2
          go_meet
          exact ⟨hKu5.trans (hK9.mono fun g _ (hg : blk ra ≠ some g ∧ g ≤ w4.heap.size) => hg.1), hPq.keep hK9 (fun g hg _ e => by have h1 := hPlo g hg; have h2 := hlt4 g e; omega), by rw [He.out]; exact hO9⟩
        case rest =>
         clear hKu5 hOq hPq o0 o1 o2 bO8 hGu5 hKu hOu hPu hGu hO hP bOr hK bOu
         obtain ⟨hK1, hP1, hO1⟩ := hcut
         have hx1 : NumL (elM1 x C t k) := by
          unfold elM1; split
          ·exact hx
          ·exact swN_num hx C
         have Hx1l := Lib.hid (show (elM1 x C t k).length = R * C by rw [elM1_len]; exact Hxl.out)
         generalize elM1 x C t k = y at *
         obtain ⟨wq, rfl⟩ : ∃ wq, wq = wc := ⟨_, rfl⟩
         have bO1 := bO5.keep hK1 ⟨fun e => by have := hlt4 _ e; omega, Nat.le_refl _⟩
         obtain ⟨⟨o0, o1, o2⟩, -⟩ := bO1.three
         clear hx Hxl
         go_wp2
         clear o0 o1 o2 bO1
         go_loopw [11] (fun q u => Keep (fun g => blk ra ≠ some g) wq u ∧ ∃ (i : Nat) (z : List Int), i ≤ R ∧ q = .int .i64 i ∧ Own u 3 1 ra rn rc (ints z) ∧ z.length = R * C ∧ NumL z ∧ ecElim C j t i y = some z) (fun q _ => R - (intOf q).toNat)
         case atStart => exact ⟨Keep.refl _ _, 0, y, Nat.zero_le _, rfl, hO1, Hx1l.out, hx1, rfl⟩
         case round =>
          clear hO1 hx1 Hx1l
          obtain ⟨u0, rfl⟩ : ∃ u0, u0 = wr := ⟨_, rfl⟩
          obtain ⟨hKp, i, z, hi, rfl, hO, hzl, hz, hel⟩ := hrel
          have Hzl := Lib.hid hzl; have Hel := Lib.hid hel
          clear hzl hel
          have hKq : Keep (fun g => blk ra ≠ some g ∧ g ≤ w4.heap.size) w5 u0 := hK1.trans (hKp.mono fun g _ (hg : blk ra ≠ some g ∧ g ≤ w4.heap.size) => hg.1)
          have bOu := bO5.keep hKq ⟨fun e => by have := hlt4 _ e; omega, Nat.le_refl _⟩
          obtain ⟨⟨o0, o1, o2⟩, -⟩ := bOu.three
          by_cases hiR : i < R
          ·have hgc : z[i * C + j]? = some (cell z C i j) := get_cell (by rw [Hzl.out]; exact place_lt hjC hiR)
           have hpl : i * C + j < rn := by rw [← Hn.out]; exact place_lt hjC hiR
           have rdu := hO.rdI (S := fun _ => True) (fun _ _ => trivial) (num_rng hz)
           have hxn := cell_num hz C i j
           obtain ⟨X, hX⟩ : ∃ X, X = cell z C i j := ⟨_, rfl⟩
           rw [← hX] at hgc hxn
           have HX := Lib.hid hX; clear hX
           go_wp2_with fail
           refine (at_c ra rn rc C i j _ (R : Int) _ z _ rdu rfl hgc (by omega) (by omega) (by omega) (by omega)).mono ?_
           rintro e w9 ⟨rfl, hG9⟩
           have hO9 := hO.grow hG9
           have hKp9 := hKp.trans hG9.any
           have bO9 := bOu.grow hG9
           have rd9 := rdu.grow hG9
           clear o0 o1 o2 bOu hO hKp rdu hgc hpl hKq
           by_cases hgo : i = t ∨ X = 0
           ·have HE := Lib.hid (elim_skip Hel.out (show i = t ∨ cell z C i j = 0 by rw [← HX.out]; exact hgo))
            by_cases hit : i = t
            ·have q1 : ((i : Int) == (t : Int)) = true := by simp [hit]
             clear hgo
             go_wp2
             go_roundw
             case rel => exact ⟨hKp9, i + 1, z, by omega, by go_num, hO9, Hzl.out, hz, HE.out⟩
             case measure => simp [intOf]; omega
            ·have q1 : ((i : Int) == (t : Int)) = false := by simp; omega
             have q2 : (X == 0) = true := by simp [hgo.resolve_left hit]
             clear hgo
             go_wp2
             go_roundw
             case rel => exact ⟨hKp9, i + 1, z, by omega, by go_num, hO9, Hzl.out, hz, HE.out⟩
             case measure => simp [intOf]; omega
           ·have hit : i ≠ t := fun e => hgo (.inl e)
            have hX0 : X ≠ 0 := fun e => hgo (.inr e)
            have q1 : ((i : Int) == (t : Int)) = false := by simp; omega
            have q2 : (X == 0) = false := by simp [hX0]
            have Hno := Lib.hid (show elWok z C i t j = false → ecElim C j t (i + 1) y = none from elim_no Hel.out (by rw [← HX.out]; exact hgo))
            have Hyes := Lib.hid (show elWok z C i t j = true → ecElim C j t (i + 1) y = some (elRow z C i t j) from elim_yes Hel.out (by rw [← HX.out]; exact hgo))
            have hgc2 : z[t * C + j]? = some (cell z C t j) := get_cell (by rw [Hzl.out]; exact place_lt hjC htR)
            have hpl2 : t * C + j < rn := by rw [← Hn.out]; exact place_lt hjC htR
            have hyn := cell_num hz C t j
            have hgn := elG_num (C := C) (i := i) (t := t) (j := j) hz
            have hgp : elG z C i t j ≠ 0 := elG_pos (by rw [← HX.out]; exact hX0)
            have HG := Lib.hid (show gI X (cell z C t j) = elG z C i t j by rw [HX.out]; rfl)
            have HW := Lib.hid (show ∀ k, elW z C i t j k = (cell z C t j).tdiv (elG z C i t j) * cell z C i k - X.tdiv (elG z C i t j) * cell z C t k from fun k => by rw [HX.out]; rfl)
            have hq1 := tdiv_num' (y := elG z C i t j) hyn
            have hq2 := tdiv_num' (y := elG z C i t j) hxn
            clear hgo HX Hel
            generalize elG z C i t j = G at *
            generalize cell z C t j = Y at *
            obtain ⟨⟨o0, o1, o2⟩, -⟩ := bO9.three
            go_wp2_with fail
            refine (at_c ra rn rc C t j _ (R : Int) _ z _ rd9 rfl hgc2 (by omega) (by omega) (by omega) (by omega)).mono ?_
            rintro e w10 ⟨rfl, hG10⟩
            go_wp2_with fail
            refine (iGcd_c X Y _ hxn hyn).mono ?_
            rintro e w11 ⟨rfl, hG11⟩
            rw [HG.out]
            have hG91 := hG10.trans hG11
            have hOb := hO9.grow hG91
            have hKb := hKp9.trans hG91.any
            clear o0 o1 o2 bO9 hO9 hKp9 rd9 hgc2 hpl2 hG10 hG11
            go_wp2
            go_loopw [15] (fun q u => Keep (fun g => blk ra ≠ some g) wq u ∧ ∃ c : Nat, c ≤ C ∧ q = .int .i64 c ∧ Own u 3 1 ra rn rc (ints (updR (elW z C i t j) (i * C) c z)) ∧ ∀ c', c' < c → isNumB (elW z C i t j c') = true) (fun q _ => C - (intOf q).toNat)
            case atStart => exact ⟨hKb, 0, Nat.zero_le _, rfl, hOb, fun c' h0 => by omega⟩
            case round =>
             clear hKb hOb hG91 hG9
             obtain ⟨u, rfl⟩ : ∃ u, u = wr := ⟨_, rfl⟩
             obtain ⟨hKp, c, hc, rfl, hO, hall⟩ := hrel
             have Hall := Lib.hid hall; clear hall
             have hKu : Keep (fun g => blk ra ≠ some g ∧ g ≤ w4.heap.size) w5 u := hK1.trans (hKp.mono fun g _ (hg : blk ra ≠ some g ∧ g ≤ w4.heap.size) => hg.1)
             have bOu := bO5.keep hKu ⟨fun e => by have := hlt4 _ e; omega, Nat.le_refl _⟩
             obtain ⟨⟨o0, o1, o2⟩, -⟩ := bOu.three
             by_cases hcC : c < C
             ·have hyr : NumL (updR (elW z C i t j) (i * C) c z) := fun v hv => by
               rcases updR_mem hv with hv | ⟨k, hk, rfl⟩
               ·exact hz v hv
               ·exact isNumB_iff.1 (Hall.out k hk)
              have hyl : (updR (elW z C i t j) (i * C) c z).length = R * C := by rw [updR_len]; exact Hzl.out
              have hcell : cell (updR (elW z C i t j) (i * C) c z) C i c = cell z C i c := cell_part Hzl.out hiR hc hcC (.inr (Nat.le_refl _))
              have hcell2 : cell (updR (elW z C i t j) (i * C) c z) C t c = cell z C t c := cell_part Hzl.out hiR hc hcC (.inl (fun e => hit e.symm))
              have hgc : (updR (elW z C i t j) (i * C) c z)[i * C + c]? = some (cell z C i c) := by rw [← hcell]; exact get_cell (by rw [hyl]; exact place_lt hcC hiR)
              have hgc2 : (updR (elW z C i t j) (i * C) c z)[t * C + c]? = some (cell z C t c) := by rw [← hcell2]; exact get_cell (by rw [hyl]; exact place_lt hcC htR)
              have hpl : i * C + c < rn := by rw [← Hn.out]; exact place_lt hcC hiR
              have hv := cell_num hz C i c
              have hv2 := cell_num hz C t c
              have hm1 := mul_rng hq1 hv
              have hm2 := mul_rng hq2 hv2
              have Hset := Lib.hid (show updR (elW z C i t j) (i * C) (c + 1) z = (updR (elW z C i t j) (i * C) c z).set (i * C + c) (Y.tdiv G * cell z C i c - X.tdiv G * cell z C t c) by rw [← HW.out]; rfl)
              have HWc := Lib.hid (HW.out c)
              have rdu := hO.rdI (S := fun _ => True) (fun _ _ => trivial) (num_rng hyr)
              clear hcell hcell2 hyl hyr
              generalize hcv : cell z C i c = cv at *
              generalize hcw : cell z C t c = cw at *
              clear hcv hcw
              generalize updR (elW z C i t j) (i * C) c z = zz at *
              go_wp2
              refine wp_region_segs (S := Grow u) [([0, 1, 2, 3, 4, 5, 8, 9, 10, 11, 12, 13], some 6), ([7], some 14), ([15, 16, 17], none)] P_mixed (by kernel_rfl) (fun _ _ _ _ _ h => h) (Grow.refl _).drew ?_
              show wpQuiet _ _ _ _ [_, _, _, _, _, _, _, _, _, _, _, _] _
              repeat (first | go_big_quiet_skip | (go_big_quiet_want; first | (apply quiet_load3 T_mat; rfl; rfl; exact (fun w' hG => bOu.grow hG); go_big_quiet_on; simp only [Act.put, List.setIfInBounds_toArray, List.set_cons_succ, List.set_cons_zero]) | (go_big_quiet_op; first | go_big_quiet_on | (refine ⟨_, (fun _ _ => rfl), ?_⟩; go_big_quiet_on))))
              refine wpQuiet_nil ?_
              refine seg_go rfl (fun K hK => ?_)
              go_wp2_with fail
              refine (at_c ra rn rc C i c _ (R : Int) _ zz _ (rdu.grow (Grow.refl _).drew) rfl hgc (by omega) (by omega) (by omega) (by omega)).mono ?_
              rintro e w10 ⟨rfl, hG10⟩
              have hGu := (Grow.refl u).drew.trans hG10
              go_wp2_with fail
              refine hK _ _ (hGu) ?_
              clear hK K
              show wpQuiet _ _ _ _ [_] _
              try (conv => arg 6; simp only [Act.put, List.setIfInBounds_toArray, List.set_cons_succ, List.set_cons_zero])
              repeat (first | go_big_quiet_skip | (go_big_quiet_want; first | (apply quiet_load3 T_mat; rfl; rfl; exact (fun w' hG => bOu.grow hG); go_big_quiet_on; simp only [Act.put, List.setIfInBounds_toArray, List.set_cons_succ, List.set_cons_zero]) | (go_big_quiet_op; first | go_big_quiet_on | (refine ⟨_, (fun _ _ => rfl), ?_⟩; go_big_quiet_on))))
              refine wpQuiet_nil ?_
              refine seg_go rfl (fun K hK => ?_)
              go_wp2_with fail
              refine (at_c ra rn rc C t c _ (R : Int) _ zz _ (rdu.grow hGu) rfl hgc2 (by omega) (by omega) (by omega) (by omega)).mono ?_
              rintro e w11 ⟨rfl, hG11⟩
              have hGv := hGu.trans hG11
              go_wp2_with fail
              refine hK _ _ (hGv) ?_
              clear hK K
              show wpQuiet _ _ _ _ [_, _, _] _
              try (conv => arg 6; simp only [Act.put, List.setIfInBounds_toArray, List.set_cons_succ, List.set_cons_zero])
              repeat (first | go_big_quiet_skip | (go_big_quiet_want; first | (apply quiet_load3 T_mat; rfl; rfl; exact (fun w' hG => bOu.grow hG); go_big_quiet_on; simp only [Act.put, List.setIfInBounds_toArray, List.set_cons_succ, List.set_cons_zero]) | (go_big_quiet_op; first | go_big_quiet_on | (refine ⟨_, (fun _ _ => rfl), ?_⟩; go_big_quiet_on))))
              refine wpQuiet_nil ?_
              refine wpSegs_nil ?_
              have hOv := hO.grow hGv
              have bOv := bOu.grow hGv
              clear o0 o1 o2 bOu hO rdu hgc hgc2
              obtain ⟨⟨o0, o1, o2⟩, -⟩ := bOv.three
              obtain ⟨v, hve⟩ : ∃ v, Y.tdiv G * cv - X.tdiv G * cw = v := ⟨_, rfl⟩
              have Hve := Lib.hid hve.symm
              have hvr : -400000000000000000 ≤ v ∧ v ≤ 400000000000000000 := by omega
              go_wp2_with fail
              refine (isNumber_c _ _).mono ?_
              rintro e _ ⟨rfl, rfl⟩
              cases hn1 : isNumB v with
              | false =>
               have HF := Lib.hid (HT0.out (HS0.out (by
                have h1 : elWok z C i t j = false := by
                 rw [Bool.eq_false_iff]; intro e
                 have := elWok_iff.1 e c hcC
                 rw [HWc.out, ← Hve.out, hn1] at this
                 cases this
                have h2 := elim_dead (Hno.out h1) (d := R - (i + 1))
                rwa [show i + 1 + (R - (i + 1)) = R by omega] at h2)))
               have hKf := hKu.trans hGv.any
               have bZ0 := bZ5.keep hKf ⟨fun e => by have := hlo _ e; omega, by omega⟩
               have bZr := bZ0.grow ((Grow.refl _).alloc #[] 3)
               have hGr0 := Grow.keep (S := fun g => blk ra ≠ some g ∧ g ≤ w4.heap.size) hG15 hKf (fun g hg => ⟨fun e => by have := hlo _ e; omega, by omega⟩)
               have hGr := hGr0.alloc #[] 3
               obtain ⟨⟨z0, z1, z2⟩, g0, g1, g2⟩ := bZr.three
               have hltZ := bZr.lt
               have h1' : w.heap.size ≤ w.heap.size + 1 := by omega
               have hB3 := ((bZr.set 0 (.int .i64 0)).set 1 (.int .i64 0)).set 2 (.slice none 0 0)
               have hG3' := ((hGr.setCell (p := ⟨w.heap.size + 1, 0, none⟩) h1' (.int .i64 0)).setCell (p := ⟨w.heap.size + 1, 1, none⟩) h1' (.int .i64 0)).setCell (p := ⟨w.heap.size + 1, 2, none⟩) h1' (.slice none 0 0)
               go_wp2
               exact ret_cell_tmp2 T_mat rfl rfl rfl hB3 ⟨_, _, _, _, _, _, _, by rw [HF.out.1, HF.out.2]; rfl, hG3'⟩
              | true =>
               have Hst := Lib.hid (show ∀ c', c' < c + 1 → isNumB (elW z C i t j c') = true from fun c' hc' => by
                by_cases e : c' = c
                ·subst e; rw [HWc.out, ← Hve.out]; exact hn1
                ·exact Hall.out c' (by omega))
               rw [← Hve.out] at Hset
               go_wp2_with fail
               refine (set_c ra rn rc C i c _ (R : Int) _ _ _ hOv rfl hpl (by omega) (by omega) (by omega) (by omega)).mono ?_
               rintro e w12 ⟨rfl, hO12, hK12⟩
               rw [← Hset.out] at hO12
               have hK13 := (hKp.trans hGv.any).trans hK12
               clear o0 o1 o2
               go_wp2
               go_roundw
               case rel => exact ⟨hK13, c + 1, by omega, by go_num, hO12, Hst.out⟩
               case measure => simp [intOf]; omega
             ·have hcE : c = C := by omega
              have hok : elWok z C i t j = true := elWok_iff.2 fun k hk => Hall.out k (by omega)
              have HE := Lib.hid (Hyes.out hok)
              have hEl : (elRow z C i t j).length = R * C := by rw [elRow_len]; exact Hzl.out
              have hEn := elRow_num hz hok
              have hwl : (updR (elW z C i t j) (i * C) C z).length = R * C := by rw [updR_len]; exact Hzl.out
              have hwn := elW_num hz hok
              have HER := Lib.hid (show elRow z C i t j = primR (updR (elW z C i t j) (i * C) C z) C i from rfl)
              have hri := row_le hwl hiR
              rw [hwl, Hn.out] at hri
              rw [hcE] at hO
              clear hok hcE
              generalize updR (elW z C i t j) (i * C) C z = zz at *
              go_wp2_with fail
              refine (row_c ra rn rc C i (R : Int) zz _ hO hri (by omega) (by omega)).mono ?_
              rintro e w13 ⟨a1, rfl, hA, hG13⟩
              go_wp2_with fail
              refine (iPrim_c ra a1 rn rc C i R zz _ (hO.grow hG13) hwl hiR hwn hR hC hA).mono ?_
              rintro e w14 ⟨rfl, hO14, hK14⟩
              rw [← HER.out] at hO14
              have hK15 := (hKp.trans hG13.any).trans hK14
              clear o0 o1 o2
              go_wp2
              go_roundw
              case rel => exact ⟨hK15, i + 1, _, by omega, by go_num, hO14, hEl, hEn, HE.out⟩
              case measure => simp [intOf]; omega
          ·have hiE : i = R := by omega
           have HS2 := Lib.hid (HS1.out z (by rw [← hiE]; exact Hel.out))
           have hPu := hP1.keep hKp (fun g hg _ e => by have h1 := hPlo g hg; have h2 := hlt4 g e; omega)
           have hGa := (Grow.refl u0).alloc #[.int .i64 (j : Int)] 3
           have hPa := hPu.grow hGa
           have hOa := hO.grow hGa
           have hs5k : w4.heap.size < u0.heap.size := by have := bOu.lt; omega
           clear hPu hO
           go_wp2_with (at_builtin; refine wpList_app rfl (.tmp 130) (.tmp 132) _ rfl T_ints rfl hPa rfl (Row.bAt6 (S := fun _ => True) 1 rfl (by unfold maxLen; omega) rfl (fun _ => trivial)) (by simp [Value.oneCell']) (by omega) (by unfold maxLen; omega) ?_; intro a9 c9 w9 hA9)
           have hP9 : Own w9 3 1 a9 (t + 1) c9 (ints (L ++ [(j : Int)])) := by have := hA9.own; simpa [ints] using this
           have hO9 := hOa.keep hA9.keep (fun g hg _ e => by have h1 := hPlo g e; have h2 := hlt4 g hg; omega)
           have hK9 : Keep (fun g => blk ra ≠ some g ∧ g ≤ w4.heap.size) w5 w9 := (hKq.trans hGa.any).trans (hA9.keep.mono fun g _ hg e => by have h1 := hPlo g e; have h2 := hg.2; omega)
           have hPlo9 : ∀ g, blk a9 = some g → w4.heap.size < g := fun g hg => by
            rcases hA9.new with e | ⟨q, e, hq⟩
            ·exact hPlo g (e ▸ hg)
            ·rw [e] at hg; obtain rfl := Option.some.inj hg; simp at hq; omega
           clear hA9 hPa hOa
           go_wp2
           go_roundw
           case rel => exact ⟨hK9, t + 1, j + 1, c9, _, L ++ [(j : Int)], a9, by omega, by omega, by go_num, by go_num, hP9, hPlo9, hO9, Hzl.out, hz, HS2.out⟩
           case measure => simp [intOf]; omega
      ·have hkE : k = R := by omega
       have hKR : K = R := by rw [← Hek.out, hkE, Nat.sub_self]; rfl
       have HS := Lib.hid (Hsk.out hKR)
       have e1 : (R : Int) ≤ (k : Int) := by omega
       go_wp2
       go_roundw
       case rel => exact ⟨hKu, t, j + 1, pc, x, L, pa, by omega, by omega, rfl, by go_num, hPu, hPlo, hOu, Hxl.out, hx, HS.out⟩
       case measure => simp [intOf]; omega
    ·have HF := Lib.hid (HT1.out t x (by rw [← Hre.out, show C - j = 0 by omega]; rfl))
     have bZr := bZ5.keep hK ⟨fun e => by have := hlo _ e; omega, by omega⟩
     have hGr : Grow w wo := Grow.keep (S := fun g => blk ra ≠ some g ∧ g ≤ w4.heap.size) hG15 hK (fun g hg => ⟨fun e => by have := hlo _ e; omega, by omega⟩)
     obtain ⟨⟨z0, z1, z2⟩, g0, g1, g2⟩ := bZr.three
     have hltZ := bZr.lt
     have hKs : Keep (fun q => q ≠ w.heap.size + 1) wo (((wo.setCell ⟨w.heap.size + 1, 0, none⟩ (.int .i64 (R : Int))).setCell ⟨w.heap.size + 1, 1, none⟩ (.int .i64 (C : Int))).setCell ⟨w.heap.size + 1, 2, none⟩ (.slice ra rn rc)) :=
      (((Keep.refl _ wo).setCell (fun _ e => e rfl) _).setCell (fun _ e => e rfl) _).setCell (fun _ e => e rfl) _
     have hGf := hGr.keep hKs (fun q hq => by omega)
     go_wp2
     exact ret_cell_tmp2 T_mat rfl rfl rfl (((bZr.set 0 _).set 1 _).set 2 _) ⟨_, _, _, _, _, pa, pc, by rw [HF.out.1, HF.out.2]; rfl, hGf⟩
end Go.Proofs.Ytneeelebnnfbeaa

namespace Go.Proofs.Ytneeelebnnfbeaa
open Go.RowKit
theorem l7Echelon_mat {S : Nat → Prop} (a : Option Addr) (n cp C R : Nat) (m : List Int) (w : World) (h : RdI w S a n cp m) (hl : m.length = R * C) (hm : NumL m) (hR : R ≤ 24) (hC : C ≤ 24) :
  Calls Try.prog 29 #[.agg #[.int .i64 R, .int .i64 C, .slice a n cp]] w fun e w' => ∃ x y sa sn sc pa pc, e = .returned (.tuple #[.agg #[.int .i64 x, .int .i64 y, .slice sa sn sc], .slice pa (ecT { rows := (R : Int), cols := (C : Int), cells := m }) pc, .bool (ecOk { rows := (R : Int), cols := (C : Int), cells := m })]) ∧ Grow w w' := by
 have hnl : m.length = n := h.len
 have hRC : R * C ≤ 24 * 24 := Nat.mul_le_mul hR hC
 have Hn := Lib.hid (show R * C = n by rw [← hnl, hl])
 have hn576 : n ≤ 576 := by omega
 have hBm := isMatB_ok hR hC hl hm
 obtain ⟨w2, hw2⟩ : ∃ w2, w2 = (w.alloc (.cells #[.int .i64 (R : Int), .int .i64 (C : Int), .slice a n cp] 32)).alloc (.cells #[.int .i64 0, .int .i64 0, .slice none 0 0] 32) := ⟨_, rfl⟩
 have hG2 : Grow w w2 := by rw [hw2]; exact ((Grow.refl w).alloc _ _).alloc _ _
 have bM : Blk w2 w.heap.size #[.int .i64 (R : Int), .int .i64 (C : Int), .slice a n cp] 32 := by rw [hw2]; exact (Blk.new w _ _).alloc _
 have bZ : Blk w2 (w.heap.size + 1) #[.int .i64 0, .int .i64 0, .slice none 0 0] 32 := by rw [hw2]; exact Blk.newAt _ _ _ (by simp)
 have hVM : VM w2 S (.agg #[.int .i64 (R : Int), .int .i64 (C : Int), .slice a n cp]) { rows := (R : Int), cols := (C : Int), cells := m } := ⟨a, n, cp, rfl, h.grow hG2, by unfold I64; simp only; omega, by unfold I64; simp only; omega⟩
 have hbd : bdM { rows := (R : Int), cols := (C : Int), cells := m } ≤ 1048576 := by unfold bdM; simp only; omega
 have Hw2 := Lib.hid hw2
 have hsz2 : w2.heap.size = w.heap.size + 1 + 1 := by rw [hw2]; simp
 clear hw2
 obtain ⟨res, hres⟩ : ∃ res, res = ecN C R C 0 0 (primAll m C R) := ⟨_, rfl⟩
 have HT0 := Lib.hid (fun h0 : res = none => ec_none (m := { rows := (R : Int), cols := (C : Int), cells := m }) (by rw [echR_mat hBm, ← hres]; exact h0))
 have HT1 := Lib.hid (fun (t : Nat) (x : List Int) (h0 : res = some (t, x)) => ec_some (m := { rows := (R : Int), cols := (C : Int), cells := m }) (t := t) (x := x) (by rw [echR_mat hBm, ← hres]; exact h0))
 generalize ecT { rows := (R : Int), cols := (C : Int), cells := m } = eT at *
 generalize ecOk { rows := (R : Int), cols := (C : Int), cells := m } = eO at *
 clear hRC hnl h hBm
 go_enter Try.func29, Try.ntmps29
 go_wp2_with fail
 rw [← Hw2.out]
 refine (l3Copy_c hVM hbd).mono ?_
 rintro e w4 ⟨rv, rfl, hR4, hG4⟩
 obtain ⟨ra, rn, rc, rfl, oR, rR, fR, i1, i2⟩ := hR4
 simp only at oR rR i1 i2
 have hrn0 : m.length = rn := by simpa [ints] using oR.len
 have hrn : rn = n := by rw [← hrn0, hl]; exact Hn.out
 clear hrn0
 subst hrn
 obtain ⟨w5, hw5⟩ : ∃ w5, w5 = (w4.alloc (.cells #[.int .i64 (R : Int), .int .i64 (C : Int), .slice ra rn rc] 32)).alloc (.cells #[] 3) := ⟨_, rfl⟩
 have hG5 : Grow w4 w5 := by rw [hw5]; exact ((Grow.refl w4).alloc _ _).alloc _ _
 have bO5 : Blk w5 w4.heap.size #[.int .i64 (R : Int), .int .i64 (C : Int), .slice ra rn rc] 32 := by rw [hw5]; exact (Blk.new w4 _ _).alloc _
 have oP5 : Own w5 3 1 (some ⟨w4.heap.size + 1, 0, none⟩) 0 0 [] := by rw [hw5]; exact Own.freshAt (cs := #[]) (by simp) (by unfold maxLen; omega) rfl
 have hO5 := oR.grow hG5
 have hlo : ∀ g, blk ra = some g → w2.heap.size ≤ g := fun g hg => (fR g hg).1
 have hlt4 : ∀ g, blk ra = some g → g < w4.heap.size := fun g hg => (fR g hg).2
 have hs4 := hG4.size
 have hs5 : w5.heap.size = w4.heap.size + 1 + 1 := by rw [hw5]; simp
 have bZ5 := (bZ.grow hG4).grow hG5
 have hG15 := (hG2.trans hG4).trans hG5
 have Hw5 := Lib.hid hw5
 have Hm := Lib.hid hm; have Hml := Lib.hid hl
 clear hw5 oR hVM hbd bZ bM hm hl
 go_wp2
 rw [← Hw5.out]
 go_loopw [7] (fun q wr => Keep (fun g => blk ra ≠ some g ∧ g ≤ w4.heap.size + 1) w5 wr ∧ ∃ i : Nat, i ≤ R ∧ q = .int .i64 i ∧ Own wr 3 1 ra rn rc (ints (primAll m C i))) (fun q _ => R - (intOf q).toNat)
 case atStart => exact ⟨Keep.refl _ _, 0, Nat.zero_le _, rfl, hO5⟩
 case round =>
  clear hO5
  obtain ⟨wp, rfl⟩ : ∃ wp, wp = wr := ⟨_, rfl⟩
  obtain ⟨hKa, i, hi, rfl, hO⟩ := hrel
  have bOr := bO5.keep hKa ⟨fun e => by have := hlt4 _ e; omega, by omega⟩
  obtain ⟨⟨o0, o1, o2⟩, -⟩ := bOr.three
  have hzl : (primAll m C i).length = R * C := by rw [primAll_len]; exact Hml.out
  have hzn := primAll_num (C := C) Hm.out i
  by_cases hiR : i < R
  ·have hri := row_le hzl hiR
   rw [hzl, Hn.out] at hri
   have Hst := Lib.hid (show primAll m C (i + 1) = primR (primAll m C i) C i from rfl)
   generalize primAll m C i = z at *
   go_wp2_with fail
   refine (sPrim_c ra rn rc C i R z _ hO hzl hiR hzn hR hC).mono ?_
   rintro e w7 ⟨rfl, hO7, hK7⟩
   rw [← Hst.out] at hO7
   have hKb := hKa.trans (hK7.mono fun g _ (hg : blk ra ≠ some g ∧ g ≤ w4.heap.size + 1) => hg.1)
   clear o0 o1 o2
   go_wp2
   go_roundw
   case rel => exact ⟨hKb, i + 1, by omega, by go_num, hO7⟩
   case measure => simp [intOf]; omega
  ·obtain rfl : R = i := by omega
   have hP0 := oP5.keep hKa (fun g hg _ => ⟨fun e => by simp at hg; have := hlt4 g e; omega, by simp at hg; omega⟩)
   have hK0 : Keep (fun g => blk ra ≠ some g ∧ g ≤ w4.heap.size) w5 wp := hKa.mono fun g _ hg => ⟨hg.1, by omega⟩
   go_wp2
   clear o0 o1 o2 hKa bOr
   go_loopw [6, 8] (fun pv jv wr => Keep (fun g => blk ra ≠ some g ∧ g ≤ w4.heap.size) w5 wr ∧ ∃ (t j pc : Nat) (x L : List Int) (pa : Option Addr), t ≤ R ∧ j ≤ C ∧ pv = .slice pa t pc ∧ jv = .int .i64 j ∧ Own wr 3 1 pa t pc (ints L) ∧ (∀ g, blk pa = some g → w4.heap.size < g) ∧ Own wr 3 1 ra rn rc (ints x) ∧ x.length = R * C ∧ NumL x ∧ ecN C R (C - j) j t x = res) (fun _ jv _ => C - (intOf jv).toNat)
   case atStart => exact ⟨hK0, 0, 0, 0, _, [], _, Nat.zero_le _, Nat.zero_le _, rfl, rfl, by simpa [ints] using hP0, (fun g hg => by simp at hg; omega), hO, hzl, hzn, hres.symm⟩
   case round =>
    clear hO hzl hzn hres hP0 hK0
    obtain ⟨wo, rfl⟩ : ∃ wo, wo = wr := ⟨_, rfl⟩
    obtain ⟨hK, t, j, pc, x, L, pa, ht, hj, rfl, rfl, hP, hPlo, hO, hxl, hx, hre⟩ := hrel
    have Hre := Lib.hid hre; have Hxl := Lib.hid hxl
    clear hre hxl
    have bOr := bO5.keep hK ⟨fun e => by have := hlt4 _ e; omega, Nat.le_refl _⟩
    obtain ⟨⟨o0, o1, o2⟩, -⟩ := bOr.three
    by_cases hgo : j < C ∧ t < R
    ·obtain ⟨hjC, htR⟩ := hgo
     obtain ⟨K, hKK⟩ : ∃ K, K = elK x C j (R - t) t := ⟨_, rfl⟩
     have Hsk := Lib.hid (show K = R → ecN C R (C - (j + 1)) (j + 1) t x = res from fun e => by rw [← Hre.out, show C - j = (C - (j + 1)) + 1 by omega, ecN_skip htR hKK e])
     have Hst0 := Lib.hid (show K ≠ R → ecElim C j t R (elM1 x C t K) = none → res = none from fun e h1 => by rw [← Hre.out, show C - j = (C - (j + 1)) + 1 by omega, ecN_none htR hKK e h1])
     have Hst1 := Lib.hid (show ∀ y, K ≠ R → ecElim C j t R (elM1 x C t K) = some y → ecN C R (C - (j + 1)) (j + 1) (t + 1) y = res from fun y e h1 => by rw [← Hre.out, show C - j = (C - (j + 1)) + 1 by omega, ecN_some htR hKK e h1])
     have hnp : 0 < rn := by have := place_lt hjC htR; rw [Hn.out] at this; omega
     obtain ⟨pb, rfl⟩ : ∃ pb, ra = some ⟨pb, 0, none⟩ := by
      cases ra with
      | none => have := hO.nil rfl; have := hO.le; omega
      | some q => exact ⟨q.block, by rw [← (hO.block q rfl).1]⟩
     have hpb := hO.lt (g := pb) rfl
     have hle := hO.le
     go_wp2
     go_loopw [10] (fun q u => wo = u ∧ ∃ k : Nat, t ≤ k ∧ k ≤ R ∧ q = .int .i64 k ∧ elK x C j (R - k) k = K) (fun q _ => R - (intOf q).toNat)
     case atStart => exact ⟨rfl, t, Nat.le_refl _, by omega, rfl, hKK.symm⟩
     case round =>
      clear hKK
      obtain ⟨rfl, k, htk, hk, rfl, hek⟩ := hrel
      have Hek := Lib.hid hek; clear hek
      by_cases hkR : k < R
      ·have hni : k * C + j < rn := by rw [← Hn.out]; exact place_lt hjC hkR
       have hcx : wo.cell? ⟨pb, k * C + j, none⟩ = some (.int .i64 (cell x C k j)) := by
        have h := hO.cell (ints_get (xs := x) (j := k * C + j) (by rw [Hxl.out]; exact place_lt hjC hkR) rfl)
        simp only at h
        exact h
       have u1 := mul_wrap (i := k) (c := C) (by omega) (by omega)
       have u2 := idx_wrap (i := k) (c := C) (j := j) (by omega) (by omega) (by omega) rfl
       by_cases hx0 : cell x C k j = 0
       ·have HE := Lib.hid (show elK x C j (R - (k + 1)) (k + 1) = K by rw [← Hek.out, show R - k = (R - (k + 1)) + 1 by omega, elK_zero hx0])
        rw [hx0] at hcx
        clear hx0
        generalize k * C + j = s1 at *
        go_wp2
        go_roundw
        case rel => exact ⟨by trivial, k + 1, by omega, by omega, by go_num, HE.out⟩
        case measure => simp [intOf]; omega
       ·have hkK : K = k := by rw [← Hek.out, elK_hit hx0]
        have e0 : (cell x C k j == 0) = false := by simp [hx0]
        have HS0 := Lib.hid (show ecElim C j t R (elM1 x C t k) = none → res = none by rw [← hkK]; exact Hst0.out (by omega))
        have HS1 := Lib.hid (show ∀ y, ecElim C j t R (elM1 x C t k) = some y → ecN C R (C - (j + 1)) (j + 1) (t + 1) y = res by rw [← hkK]; exact fun y => Hst1.out y (by omega))
        have hne : ¬ ((k : Int) = (R : Int)) := by omega
        have e1 : ((k : Int) == (R : Int)) = false := by simp; omega
        clear hkK Hst0 Hst1 Hsk Hek hx0 Hre
        generalize hs1 : k * C + j = s1 at *
        clear hs1
        go_upto_if 71 with fail
        clear u1 u2
        go_cut [] from 30 to 169 (fun wx => Keep (fun g => blk (some (⟨pb, 0, none⟩ : Addr)) ≠ some g ∧ g ≤ w4.heap.size) w5 wx ∧ Own wx 3 1 pa t pc (ints L) ∧ Own wx 3 1 (some ⟨pb, 0, none⟩) rn rc (ints (elM1 x C t k)))
        case first =>
         by_cases hkt : k = t
         ·have q1 : ((k : Int) != (t : Int)) = false := by simp [hkt]
          have He := Lib.hid (show elM1 x C t k = x by unfold elM1; rw [if_pos hkt])
          clear hkt
          go_wp2
          go_meet
          exact ⟨hK, hP, by rw [He.out]; exact hO⟩
         ·have q1 : ((k : Int) != (t : Int)) = true := by simp; omega
          have He := Lib.hid (show elM1 x C t k = swR x C k t by unfold elM1; rw [if_neg hkt])
          go_wp2_with fail
          refine (l5Swap_c (some ⟨pb, 0, none⟩) rn rc C k t R 0 x _ hO Hxl.out hkR htR hkt hx (by omega) (by omega) (by omega) (by omega)).mono ?_
          rintro e w6 ⟨rfl, hO6, hK6⟩
          clear o0 o1 o2 hcx
          go_wp2
          go_meet
          exact ⟨hK.trans (hK6.mono fun g _ hg => hg.1), hP.keep hK6 (fun g hg _ e => by have h1 := hPlo g hg; have h2 := hlt4 pb rfl; have e2 : pb = g := (by simpa using e); omega), by rw [He.out]; exact hO6⟩
        case rest =>
         clear hK hP hO o0 o1 o2 bOr hcx hle hpb
         obtain ⟨hK1, hP1, hO1⟩ := hcut
         have hx1 : NumL (elM1 x C t k) := by
          unfold elM1; split
          ·exact hx
          ·exact swN_num hx C
         have Hx1l := Lib.hid (show (elM1 x C t k).length = R * C by rw [elM1_len]; exact Hxl.out)
         generalize elM1 x C t k = y at *
         obtain ⟨wq, rfl⟩ : ∃ wq, wq = wc := ⟨_, rfl⟩
         have bO1 := bO5.keep hK1 ⟨fun e => by have := hlt4 _ e; omega, Nat.le_refl _⟩
         obtain ⟨⟨o0, o1, o2⟩, -⟩ := bO1.three
         clear hx Hxl
         go_wp2
         clear o0 o1 o2 bO1
         go_loopw [11] (fun q u => Keep (fun g => blk (some (⟨pb, 0, none⟩ : Addr)) ≠ some g) wq u ∧ ∃ (i : Nat) (z : List Int), i ≤ R ∧ q = .int .i64 i ∧ Own u 3 1 (some ⟨pb, 0, none⟩) rn rc (ints z) ∧ z.length = R * C ∧ NumL z ∧ ecElim C j t i y = some z) (fun q _ => R - (intOf q).toNat)
         case atStart => exact ⟨Keep.refl _ _, 0, y, Nat.zero_le _, rfl, hO1, Hx1l.out, hx1, rfl⟩
         case round =>
          clear hO1 hx1 Hx1l
          obtain ⟨u0, rfl⟩ : ∃ u0, u0 = wr := ⟨_, rfl⟩
          obtain ⟨hKp, i, z, hi, rfl, hO, hzl, hz, hel⟩ := hrel
          have Hzl := Lib.hid hzl; have Hel := Lib.hid hel
          clear hzl hel
          have hKq : Keep (fun g => blk (some (⟨pb, 0, none⟩ : Addr)) ≠ some g ∧ g ≤ w4.heap.size) w5 u0 := hK1.trans (hKp.mono fun g _ hg => hg.1)
          have bOu := bO5.keep hKq ⟨fun e => by have := hlt4 _ e; omega, Nat.le_refl _⟩
          obtain ⟨⟨o0, o1, o2⟩, -⟩ := bOu.three
          by_cases hiR : i < R
          ·have hni : i * C + j < rn := by rw [← Hn.out]; exact place_lt hjC hiR
           have hni2 : t * C + j < rn := by rw [← Hn.out]; exact place_lt hjC htR
           have hxn := cell_num hz C i j
           have hyn := cell_num hz C t j
           have hcx : u0.cell? ⟨pb, i * C + j, none⟩ = some (.int .i64 (cell z C i j)) := by
            have h := hO.cell (ints_get (xs := z) (j := i * C + j) (by rw [Hzl.out]; exact place_lt hjC hiR) rfl)
            simp only at h
            exact h
           have hcy : u0.cell? ⟨pb, t * C + j, none⟩ = some (.int .i64 (cell z C t j)) := by
            have h := hO.cell (ints_get (xs := z) (j := t * C + j) (by rw [Hzl.out]; exact place_lt hjC htR) rfl)
            simp only at h
            exact h
           have hpb := hO.lt (g := pb) rfl
           have hle := hO.le
           have u1 := mul_wrap (i := i) (c := C) (by omega) (by omega)
           have u2 := idx_wrap (i := i) (c := C) (j := j) (by omega) (by omega) (by omega) rfl
           have u3 := mul_wrap (i := t) (c := C) (by omega) (by omega)
           have u4 := idx_wrap (i := t) (c := C) (j := j) (by omega) (by omega) (by omega) rfl
           obtain ⟨X, hX⟩ : ∃ X, X = cell z C i j := ⟨_, rfl⟩
           rw [← hX] at hcx hxn
           have HX := Lib.hid hX; clear hX
           by_cases hgo : i = t ∨ X = 0
           ·have HE := Lib.hid (elim_skip Hel.out (show i = t ∨ cell z C i j = 0 by rw [← HX.out]; exact hgo))
            by_cases hit : i = t
            ·have q1 : ((i : Int) == (t : Int)) = true := by simp [hit]
             clear hgo hit
             generalize i * C + j = s1 at *
             generalize t * C + j = s2 at *
             go_wp2
             go_roundw
             case rel => exact ⟨hKp, i + 1, z, by omega, by go_num, hO, Hzl.out, hz, HE.out⟩
             case measure => simp [intOf]; omega
            ·have q1 : ((i : Int) == (t : Int)) = false := by simp; omega
             have q2 : (X == 0) = true := by simp [hgo.resolve_left hit]
             clear hgo
             generalize i * C + j = s1 at *
             generalize t * C + j = s2 at *
             go_wp2
             go_roundw
             case rel => exact ⟨hKp, i + 1, z, by omega, by go_num, hO, Hzl.out, hz, HE.out⟩
             case measure => simp [intOf]; omega
           ·have hit : i ≠ t := fun e => hgo (.inl e)
            have hX0 : X ≠ 0 := fun e => hgo (.inr e)
            have q1 : ((i : Int) == (t : Int)) = false := by simp; omega
            have q2 : (X == 0) = false := by simp [hX0]
            have Hno := Lib.hid (show elWok z C i t j = false → ecElim C j t (i + 1) y = none from elim_no Hel.out (by rw [← HX.out]; exact hgo))
            have Hyes := Lib.hid (show elWok z C i t j = true → ecElim C j t (i + 1) y = some (elRow z C i t j) from elim_yes Hel.out (by rw [← HX.out]; exact hgo))
            have hgn := elG_num (C := C) (i := i) (t := t) (j := j) hz
            have hgp : elG z C i t j ≠ 0 := elG_pos (by rw [← HX.out]; exact hX0)
            have HG := Lib.hid (show gI X (cell z C t j) = elG z C i t j by rw [HX.out]; rfl)
            have HW := Lib.hid (show ∀ k, elW z C i t j k = (cell z C t j).tdiv (elG z C i t j) * cell z C i k - X.tdiv (elG z C i t j) * cell z C t k from fun k => by rw [HX.out]; rfl)
            have hq1 := tdiv_num' (y := elG z C i t j) hyn
            have hq2 := tdiv_num' (y := elG z C i t j) hxn
            clear hgo HX Hel
            generalize elG z C i t j = G at *
            generalize cell z C t j = Y at *
            generalize i * C + j = s1 at *
            generalize t * C + j = s2 at *
            go_wp2_with fail
            refine (sGcd_c X Y _ hxn hyn).mono ?_
            rintro e w11 ⟨rfl, hG11⟩
            rw [HG.out]
            have hOb := hO.grow hG11
            have hKb := hKp.trans hG11.any
            clear o0 o1 o2 bOu hO hKp hcx hcy u1 u2 u3 u4 hni hni2 hpb hle
            go_wp2
            go_loopw [15] (fun q u => Keep (fun g => blk (some (⟨pb, 0, none⟩ : Addr)) ≠ some g) wq u ∧ ∃ c : Nat, c ≤ C ∧ q = .int .i64 c ∧ Own u 3 1 (some ⟨pb, 0, none⟩) rn rc (ints (updR (elW z C i t j) (i * C) c z)) ∧ ∀ c', c' < c → isNumB (elW z C i t j c') = true) (fun q _ => C - (intOf q).toNat)
            case atStart => exact ⟨hKb, 0, Nat.zero_le _, rfl, hOb, fun c' h0 => by omega⟩
            case round =>
             clear hKb hOb hG11
             obtain ⟨u, rfl⟩ : ∃ u, u = wr := ⟨_, rfl⟩
             obtain ⟨hKp, c, hc, rfl, hO, hall⟩ := hrel
             have Hall := Lib.hid hall; clear hall
             have hKu : Keep (fun g => blk (some (⟨pb, 0, none⟩ : Addr)) ≠ some g ∧ g ≤ w4.heap.size) w5 u := hK1.trans (hKp.mono fun g _ hg => hg.1)
             have bOu := bO5.keep hKu ⟨fun e => by have := hlt4 _ e; omega, Nat.le_refl _⟩
             obtain ⟨⟨o0, o1, o2⟩, -⟩ := bOu.three
             by_cases hcC : c < C
             ·have hyl : (updR (elW z C i t j) (i * C) c z).length = R * C := by rw [updR_len]; exact Hzl.out
              have hcell : cell (updR (elW z C i t j) (i * C) c z) C i c = cell z C i c := cell_part Hzl.out hiR hc hcC (.inr (Nat.le_refl _))
              have hcell2 : cell (updR (elW z C i t j) (i * C) c z) C t c = cell z C t c := cell_part Hzl.out hiR hc hcC (.inl (fun e => hit e.symm))
              have hni : i * C + c < rn := by rw [← Hn.out]; exact place_lt hcC hiR
              have hni2 : t * C + c < rn := by rw [← Hn.out]; exact place_lt hcC htR
              have hcx : u.cell? ⟨pb, i * C + c, none⟩ = some (.int .i64 (cell z C i c)) := by
               have h := hO.cell (ints_get (j := i * C + c) (by rw [hyl]; exact place_lt hcC hiR) (show (updR (elW z C i t j) (i * C) c z).getD (i * C + c) 0 = cell z C i c from hcell))
               simp only at h
               exact h
              have hcx2 : u.cell? ⟨pb, t * C + c, none⟩ = some (.int .i64 (cell z C t c)) := by
               have h := hO.cell (ints_get (j := t * C + c) (by rw [hyl]; exact place_lt hcC htR) (show (updR (elW z C i t j) (i * C) c z).getD (t * C + c) 0 = cell z C t c from hcell2))
               simp only at h
               exact h
              have hpb := hO.lt (g := pb) rfl
              have hle := hO.le
              have hv := cell_num hz C i c
              have hv2 := cell_num hz C t c
              have hm1 := mul_rng hq1 hv
              have hm2 := mul_rng hq2 hv2
              have Hset := Lib.hid (show updR (elW z C i t j) (i * C) (c + 1) z = (updR (elW z C i t j) (i * C) c z).set (i * C + c) (Y.tdiv G * cell z C i c - X.tdiv G * cell z C t c) by rw [← HW.out]; rfl)
              have HWc := Lib.hid (HW.out c)
              have u1 := mul_wrap (i := i) (c := C) (by omega) (by omega)
              have u2 := idx_wrap (i := i) (c := C) (j := c) (by omega) (by omega) (by omega) rfl
              have u3 := mul_wrap (i := t) (c := C) (by omega) (by omega)
              have u4 := idx_wrap (i := t) (c := C) (j := c) (by omega) (by omega) (by omega) rfl
              clear hcell hcell2 hyl
              generalize hcv : cell z C i c = cv at *
              generalize hcw : cell z C t c = cw at *
              clear hcv hcw
              generalize updR (elW z C i t j) (i * C) c z = zz at *
              generalize i * C + c = s1 at *
              generalize t * C + c = s2 at *
              go_wp2
              refine wp_region_segs (S := Grow u) [([0, 1, 2, 3, 4, 5, 6, 7, 8, 9, 10, 11, 12, 13, 14, 15, 16, 17, 18, 19, 20, 21, 22, 23, 24, 25, 26, 27, 28], some 29), ([30], none)] P_mixed (by kernel_rfl) (fun _ _ _ _ _ h => h) (Grow.refl _).drew ?_
              show wpQuiet _ _ _ _ [_, _, _, _, _, _, _, _, _, _, _, _, _, _, _, _, _, _, _, _, _, _, _, _, _, _, _, _, _] _
              repeat (first | go_big_quiet_skip | (go_big_quiet_want; first | (apply quiet_load CT_ints; rfl; rfl; exact (fun w' hG => hG.cell o2); go_big_quiet_on; simp only [Act.put, List.setIfInBounds_toArray, List.set_cons_succ, List.set_cons_zero]) | (apply quiet_load CT_int; rfl; rfl; exact (fun w' hG => hG.cell o1); go_big_quiet_on; simp only [Act.put, List.setIfInBounds_toArray, List.set_cons_succ, List.set_cons_zero]) | (apply quiet_load CT_int; rfl; rfl; exact (fun w' hG => hG.cell hcx); go_big_quiet_on; simp only [Act.put, List.setIfInBounds_toArray, List.set_cons_succ, List.set_cons_zero]) | (apply quiet_load CT_int; rfl; rfl; exact (fun w' hG => hG.cell hcx2); go_big_quiet_on; simp only [Act.put, List.setIfInBounds_toArray, List.set_cons_succ, List.set_cons_zero]) | (go_big_quiet_op; first | go_big_quiet_on | (refine ⟨_, (fun _ _ => rfl), ?_⟩; go_big_quiet_on))))
              refine wpQuiet_nil ?_
              refine seg_go rfl (fun K hK => ?_)
              go_wp2_with fail
              refine (l1Fit_c _ _).mono ?_
              rintro e _ ⟨rfl, rfl⟩
              have hGu := (Grow.refl u).drew
              go_wp2_with fail
              refine hK _ _ (hGu) ?_
              clear hK K
              show wpQuiet _ _ _ _ [_] _
              try (conv => arg 6; simp only [Act.put, List.setIfInBounds_toArray, List.set_cons_succ, List.set_cons_zero])
              repeat (first | go_big_quiet_skip | (go_big_quiet_want; first | (apply quiet_load CT_ints; rfl; rfl; exact (fun w' hG => hG.cell o2); go_big_quiet_on; simp only [Act.put, List.setIfInBounds_toArray, List.set_cons_succ, List.set_cons_zero]) | (apply quiet_load CT_int; rfl; rfl; exact (fun w' hG => hG.cell o1); go_big_quiet_on; simp only [Act.put, List.setIfInBounds_toArray, List.set_cons_succ, List.set_cons_zero]) | (apply quiet_load CT_int; rfl; rfl; exact (fun w' hG => hG.cell hcx); go_big_quiet_on; simp only [Act.put, List.setIfInBounds_toArray, List.set_cons_succ, List.set_cons_zero]) | (apply quiet_load CT_int; rfl; rfl; exact (fun w' hG => hG.cell hcx2); go_big_quiet_on; simp only [Act.put, List.setIfInBounds_toArray, List.set_cons_succ, List.set_cons_zero]) | (go_big_quiet_op; first | go_big_quiet_on | (refine ⟨_, (fun _ _ => rfl), ?_⟩; go_big_quiet_on))))
              refine wpQuiet_nil ?_
              refine wpSegs_nil ?_
              obtain ⟨u9, hu9⟩ : ∃ u9, u9 = u.drew := ⟨_, rfl⟩
              rw [← hu9] at hGu ⊢
              clear hu9
              have hOv := hO.grow hGu
              have bOv := bOu.grow hGu
              clear o0 o1 o2 bOu hO hcx hcx2
              obtain ⟨⟨o0, o1, o2⟩, -⟩ := bOv.three
              obtain ⟨v, hve⟩ : ∃ v, v = Y.tdiv G * cv - X.tdiv G * cw := ⟨_, rfl⟩
              rw [← hve] at Hset HWc ⊢
              have Hve := Lib.hid hve
              clear hve
              cases hn1 : isNumB v with
              | false =>
               have HF := Lib.hid (HT0.out (HS0.out (by
                have h1 : elWok z C i t j = false := by
                 rw [Bool.eq_false_iff]; intro e
                 have := elWok_iff.1 e c hcC
                 rw [HWc.out, hn1] at this
                 cases this
                have h2 := elim_dead (Hno.out h1) (d := R - (i + 1))
                rwa [show i + 1 + (R - (i + 1)) = R by omega] at h2)))
               have hKf := hKu.trans hGu.any
               rw [fitB_bad hn1]
               have q5 : (badN == (-4611686018427387904 : Int)) = true := by decide
               clear hn1 HWc Hset Hve
               generalize badN = bb at *
               clear u1 u2 u3 u4 hm1 hm2 hq1 hq2 hv hv2 Hno Hyes HW HG hOv bOv hni hni2 hgn hgp hxn hyn hX0 hit
               have bZ0 := bZ5.keep hKf ⟨fun e => by have := hlo _ e; omega, by omega⟩
               have bZr := bZ0.grow ((Grow.refl _).alloc #[] 3)
               have hGr0 := Grow.keep (S := fun g => blk (some (⟨pb, 0, none⟩ : Addr)) ≠ some g ∧ g ≤ w4.heap.size) hG15 hKf (fun g hg => ⟨fun e => by have := hlo _ e; omega, by omega⟩)
               have hGr := hGr0.alloc #[] 3
               obtain ⟨⟨z0, z1, z2⟩, g0, g1, g2⟩ := bZr.three
               have hltZ := bZr.lt
               have h1' : w.heap.size ≤ w.heap.size + 1 := by omega
               have hB3 := ((bZr.set 0 (.int .i64 0)).set 1 (.int .i64 0)).set 2 (.slice none 0 0)
               have hG3' := ((hGr.setCell (p := ⟨w.heap.size + 1, 0, none⟩) h1' (.int .i64 0)).setCell (p := ⟨w.heap.size + 1, 1, none⟩) h1' (.int .i64 0)).setCell (p := ⟨w.heap.size + 1, 2, none⟩) h1' (.slice none 0 0)
               go_wp2
               exact ret_cell_tmp2 T_mat rfl rfl rfl hB3 ⟨_, _, _, _, _, _, _, by rw [HF.out.1, HF.out.2]; rfl, hG3'⟩
              | true =>
               have hvn := isNumB_iff.1 hn1
               have Hst := Lib.hid (show ∀ c', c' < c + 1 → isNumB (elW z C i t j c') = true from fun c' hc' => by
                by_cases e : c' = c
                ·subst e; rw [HWc.out]; exact hn1
                ·exact Hall.out c' (by omega))
               have hfb : fitB v = v := fitB_ok hn1
               rw [hfb]
               have q5 : (v == -4611686018427387904) = false := by simp; omega
               clear hfb hn1
               have hfr := hOv.free s1
               have hcc : ∃ q, u9.cell? ⟨pb, s1, none⟩ = some q := by
                have hz9 := hOv.len
                obtain ⟨yo, hyo⟩ : ∃ yo, (ints zz)[s1]? = some yo := ⟨_, List.getElem?_eq_getElem (by have := hOv.len; simp at this; simp; omega)⟩
                have := hOv.cell hyo
                simp only at this
                exact ⟨yo, this⟩
               obtain ⟨yo, hyo⟩ := hcc
               have hltu := hOv.lt (g := pb) rfl
               have hO12 : Own (u9.setCell ⟨pb, s1, none⟩ (.int .i64 v)) 3 1 (some ⟨pb, 0, none⟩) rn rc (ints (updR (elW z C i t j) (i * C) (c + 1) z)) := by
                have := hOv.set s1 (.int .i64 v)
                rw [← ints_set, ← Hset.out] at this
                exact this
               have hK13 : Keep (fun g => blk (some (⟨pb, 0, none⟩ : Addr)) ≠ some g) wq (u9.setCell ⟨pb, s1, none⟩ (.int .i64 v)) := (hKp.trans hGu.any).setCell (p := ⟨pb, s1, none⟩) (fun _ e => e rfl) _
               simp only at hfr
               clear hOv
               go_wp2
               go_roundw
               case rel => exact ⟨hK13, c + 1, by omega, by go_num, hO12, Hst.out⟩
               case measure => simp [intOf]; omega
             ·have hcE : c = C := by omega
              have hok : elWok z C i t j = true := elWok_iff.2 fun k hk => Hall.out k (by omega)
              have HE := Lib.hid (Hyes.out hok)
              have hEl : (elRow z C i t j).length = R * C := by rw [elRow_len]; exact Hzl.out
              have hEn := elRow_num hz hok
              have hwl : (updR (elW z C i t j) (i * C) C z).length = R * C := by rw [updR_len]; exact Hzl.out
              have hwn := elW_num hz hok
              have HER := Lib.hid (show elRow z C i t j = primR (updR (elW z C i t j) (i * C) C z) C i from rfl)
              rw [hcE] at hO
              clear hok hcE
              generalize updR (elW z C i t j) (i * C) C z = zz at *
              go_wp2_with fail
              refine (sPrim_c (some ⟨pb, 0, none⟩) rn rc C i R zz _ hO hwl hiR hwn hR hC).mono ?_
              rintro e w14 ⟨rfl, hO14, hK14⟩
              rw [← HER.out] at hO14
              have hK15 := hKp.trans hK14
              clear o0 o1 o2
              go_wp2
              go_roundw
              case rel => exact ⟨hK15, i + 1, _, by omega, by go_num, hO14, hEl, hEn, HE.out⟩
              case measure => simp [intOf]; omega
          ·have hiE : i = R := by omega
           have HS2 := Lib.hid (HS1.out z (by rw [← hiE]; exact Hel.out))
           have hPu := hP1.keep hKp (fun g hg _ e => by have h1 := hPlo g hg; have h2 := hlt4 pb rfl; have e2 : pb = g := (by simpa using e); omega)
           have hGa := (Grow.refl u0).alloc #[.int .i64 (j : Int)] 3
           have hPa := hPu.grow hGa
           have hOa := hO.grow hGa
           have hs5k : w4.heap.size < u0.heap.size := by have := bOu.lt; omega
           clear hPu hO
           go_wp2_with (at_builtin; refine wpList_app rfl (.tmp 166) (.tmp 168) _ rfl T_ints rfl hPa rfl (Row.bAt6 (S := fun _ => True) 1 rfl (by unfold maxLen; omega) rfl (fun _ => trivial)) (by simp [Value.oneCell']) (by omega) (by unfold maxLen; omega) ?_; intro a9 c9 w9 hA9)
           have hP9 : Own w9 3 1 a9 (t + 1) c9 (ints (L ++ [(j : Int)])) := by have := hA9.own; simpa [ints] using this
           have hO9 := hOa.keep hA9.keep (fun g hg _ e => by have h1 := hPlo g e; have h2 := hlt4 g hg; omega)
           have hK9 : Keep (fun g => blk (some (⟨pb, 0, none⟩ : Addr)) ≠ some g ∧ g ≤ w4.heap.size) w5 w9 := (hKq.trans hGa.any).trans (hA9.keep.mono fun g _ hg e => by have h1 := hPlo g e; have h2 := hg.2; omega)
           have hPlo9 : ∀ g, blk a9 = some g → w4.heap.size < g := fun g hg => by
            rcases hA9.new with e | ⟨q, e, hq⟩
            ·exact hPlo g (e ▸ hg)
            ·rw [e] at hg; obtain rfl := Option.some.inj hg; simp at hq; omega
           clear hA9 hPa hOa
           go_wp2
           go_roundw
           case rel => exact ⟨hK9, t + 1, j + 1, c9, _, L ++ [(j : Int)], a9, by omega, by omega, by go_num, by go_num, hP9, hPlo9, hO9, Hzl.out, hz, HS2.out⟩
           case measure => simp [intOf]; omega
      ·have hkE : k = R := by omega
       have hKR : K = R := by rw [← Hek.out, hkE, Nat.sub_self]; rfl
       have HS := Lib.hid (Hsk.out hKR)
       have e1 : ((k : Int) == (R : Int)) = true := by simp [hkE]
       clear hkE
       go_wp2
       go_roundw
       case rel => exact ⟨hK, t, j + 1, pc, x, L, pa, by omega, by omega, rfl, by go_num, hP, hPlo, hO, Hxl.out, hx, HS.out⟩
       case measure => simp [intOf]; omega
    ·have HF := Lib.hid (HT1.out t x (by
      rw [← Hre.out]
      by_cases h1 : j < C
      ·exact (ecN_full (fun h2 => hgo ⟨h1, h2⟩)).symm ▸ rfl
      ·rw [show C - j = 0 by omega]; rfl))
     clear Hre
     by_cases hjC : j < C
     ·have htR : ¬ t < R := fun h => hgo ⟨hjC, h⟩
      clear hgo
      go_wp2
      clear o0 o1 o2
      go_loopw [17] (fun q u => Keep (fun g => blk ra ≠ some g) wo u ∧ ∃ (i : Nat) (z : List Int), i ≤ t ∧ q = .int .i64 i ∧ Own u 3 1 ra rn rc (ints z) ∧ z.length = R * C ∧ NumL z) (fun q _ => t - (intOf q).toNat)
      case atStart => exact ⟨Keep.refl _ _, 0, x, Nat.zero_le _, rfl, hO, Hxl.out, hx⟩
      case round =>
       clear hO hx
       obtain ⟨u, rfl⟩ : ∃ u, u = wr := ⟨_, rfl⟩
       obtain ⟨hKp, i, z, hi, rfl, hOz, hzl, hz⟩ := hrel
       have hKu : Keep (fun g => blk ra ≠ some g ∧ g ≤ w4.heap.size) w5 u := hK.trans (hKp.mono fun g _ (hg : blk ra ≠ some g ∧ g ≤ w4.heap.size) => hg.1)
       have bOu := bO5.keep hKu ⟨fun e => by have := hlt4 _ e; omega, Nat.le_refl _⟩
       obtain ⟨⟨o0, o1, o2⟩, -⟩ := bOu.three
       by_cases hit : i < t
       ·go_wp2_with fail
        refine (sPrim_c ra rn rc C i R z _ hOz hzl (by omega) hz hR hC).mono ?_
        rintro e w8 ⟨rfl, hO8, hK8⟩
        clear o0 o1 o2
        have hz8 := primR_num (C := C) (i := i) hz
        have hl8 : (primR z C i).length = R * C := by rw [primR_len]; exact hzl
        have hKn := hKp.trans hK8
        go_wp2
        go_roundw
        case rel => exact ⟨hKn, i + 1, _, by omega, by go_num, hO8, hl8, hz8⟩
        case measure => simp [intOf]; omega
       ·have bZr := bZ5.keep hKu ⟨fun e => by have := hlo _ e; omega, by omega⟩
        have hGr := Grow.keep (S := fun g => blk ra ≠ some g ∧ g ≤ w4.heap.size) hG15 hKu (fun g hg => ⟨fun e => by have := hlo _ e; omega, by omega⟩)
        obtain ⟨⟨z0, z1, z2⟩, g0, g1, g2⟩ := bZr.three
        have hltZ := bZr.lt
        have hKs : Keep (fun q => q ≠ w.heap.size + 1) u (((u.setCell ⟨w.heap.size + 1, 0, none⟩ (.int .i64 (R : Int))).setCell ⟨w.heap.size + 1, 1, none⟩ (.int .i64 (C : Int))).setCell ⟨w.heap.size + 1, 2, none⟩ (.slice ra rn rc)) :=
         (((Keep.refl _ u).setCell (fun _ e => e rfl) _).setCell (fun _ e => e rfl) _).setCell (fun _ e => e rfl) _
        have hGf := hGr.keep hKs (fun q hq => by omega)
        go_wp2
        exact ret_cell_tmp2 T_mat rfl rfl rfl (((bZr.set 0 _).set 1 _).set 2 _) ⟨_, _, _, _, _, pa, pc, by rw [HF.out.1, HF.out.2]; rfl, hGf⟩
     ·clear hgo
      go_wp2
      clear o0 o1 o2
      go_loopw [17] (fun q u => Keep (fun g => blk ra ≠ some g) wo u ∧ ∃ (i : Nat) (z : List Int), i ≤ t ∧ q = .int .i64 i ∧ Own u 3 1 ra rn rc (ints z) ∧ z.length = R * C ∧ NumL z) (fun q _ => t - (intOf q).toNat)
      case atStart => exact ⟨Keep.refl _ _, 0, x, Nat.zero_le _, rfl, hO, Hxl.out, hx⟩
      case round =>
       clear hO hx
       obtain ⟨u, rfl⟩ : ∃ u, u = wr := ⟨_, rfl⟩
       obtain ⟨hKp, i, z, hi, rfl, hOz, hzl, hz⟩ := hrel
       have hKu : Keep (fun g => blk ra ≠ some g ∧ g ≤ w4.heap.size) w5 u := hK.trans (hKp.mono fun g _ (hg : blk ra ≠ some g ∧ g ≤ w4.heap.size) => hg.1)
       have bOu := bO5.keep hKu ⟨fun e => by have := hlt4 _ e; omega, Nat.le_refl _⟩
       obtain ⟨⟨o0, o1, o2⟩, -⟩ := bOu.three
       by_cases hit : i < t
       ·go_wp2_with fail
        refine (sPrim_c ra rn rc C i R z _ hOz hzl (by omega) hz hR hC).mono ?_
        rintro e w8 ⟨rfl, hO8, hK8⟩
        clear o0 o1 o2
        have hz8 := primR_num (C := C) (i := i) hz
        have hl8 : (primR z C i).length = R * C := by rw [primR_len]; exact hzl
        have hKn := hKp.trans hK8
        go_wp2
        go_roundw
        case rel => exact ⟨hKn, i + 1, _, by omega, by go_num, hO8, hl8, hz8⟩
        case measure => simp [intOf]; omega
       ·have bZr := bZ5.keep hKu ⟨fun e => by have := hlo _ e; omega, by omega⟩
        have hGr := Grow.keep (S := fun g => blk ra ≠ some g ∧ g ≤ w4.heap.size) hG15 hKu (fun g hg => ⟨fun e => by have := hlo _ e; omega, by omega⟩)
        obtain ⟨⟨z0, z1, z2⟩, g0, g1, g2⟩ := bZr.three
        have hltZ := bZr.lt
        have hKs : Keep (fun q => q ≠ w.heap.size + 1) u (((u.setCell ⟨w.heap.size + 1, 0, none⟩ (.int .i64 (R : Int))).setCell ⟨w.heap.size + 1, 1, none⟩ (.int .i64 (C : Int))).setCell ⟨w.heap.size + 1, 2, none⟩ (.slice ra rn rc)) :=
         (((Keep.refl _ u).setCell (fun _ e => e rfl) _).setCell (fun _ e => e rfl) _).setCell (fun _ e => e rfl) _
        have hGf := hGr.keep hKs (fun q hq => by omega)
        go_wp2
        exact ret_cell_tmp2 T_mat rfl rfl rfl (((bZr.set 0 _).set 1 _).set 2 _) ⟨_, _, _, _, _, pa, pc, by rw [HF.out.1, HF.out.2]; rfl, hGf⟩
end Go.Proofs.Ytneeelebnnfbeaa

namespace Go.Proofs.Ytneeelebnnfbeaa
open Go.RowKit
def EcPost (m : Mat) (w : World) (e : Ending) (w' : World) : Prop := ∃ x y sa sn sc pa pc, e = .returned (.tuple #[.agg #[.int .i64 x, .int .i64 y, .slice sa sn sc], .slice pa (ecT m) pc, .bool (ecOk m)]) ∧ Grow w w'
theorem iEchelon_c {S : Nat → Prop} {v : Value} {m : Mat} {w : World} (h : VM w S v m) (hb : bdM m ≤ 1048576) : Calls Try.prog 24 #[v] w (EcPost m w) := by
 have hVM := h
 obtain ⟨a, n, c, rfl, h, -, -⟩ := h
 cases hB : isMatB m with
 | true =>
  obtain ⟨R, C, hmr, hmc, hR, hC, hl, hnum⟩ := isMatB_shape hB
  obtain ⟨mr, mc, cells⟩ := m
  simp only at hmr hmc hl hnum h
  subst hmr
  subst hmc
  exact iEchelon_mat a n c C R cells w h hl hnum hR hC
 | false =>
  have HF := Lib.hid (ec_none (echR_no hB))
  have HB := Lib.hid hB; clear hB
  obtain ⟨w2, hw2⟩ : ∃ w2, w2 = (w.alloc (.cells #[.int .i64 m.rows, .int .i64 m.cols, .slice a n c] 32)).alloc (.cells #[.int .i64 0, .int .i64 0, .slice none 0 0] 32) := ⟨_, rfl⟩
  have hG2 : Grow w w2 := by rw [hw2]; exact ((Grow.refl w).alloc _ _).alloc _ _
  have bM : Blk w2 w.heap.size #[.int .i64 m.rows, .int .i64 m.cols, .slice a n c] 32 := by rw [hw2]; exact (Blk.new w _ _).alloc _
  have bZ : Blk w2 (w.heap.size + 1) #[.int .i64 0, .int .i64 0, .slice none 0 0] 32 := by rw [hw2]; exact Blk.newAt _ _ _ (by simp)
  have Hw2 := Lib.hid hw2; clear hw2
  unfold EcPost
  go_enter Try.func24, Try.ntmps24
  go_wp2_with fail
  rw [← Hw2.out]
  refine (isMatrix_c (hVM.grow hG2) (by omega)).mono ?_
  rintro e w3 ⟨rfl, hG3⟩
  rw [HB.out]
  have bRz := bZ.grow (hG3.alloc #[] 3)
  have hGz := (hG2.trans hG3).alloc #[] 3
  obtain ⟨⟨z0, z1, z2⟩, g0, g1, g2⟩ := bRz.three
  have hltz := bRz.lt
  have h1' : w.heap.size ≤ w.heap.size + 1 := by omega
  have hB3 := ((bRz.set 0 (.int .i64 0)).set 1 (.int .i64 0)).set 2 (.slice none 0 0)
  have hG3' := ((hGz.setCell (p := ⟨w.heap.size + 1, 0, none⟩) h1' (.int .i64 0)).setCell (p := ⟨w.heap.size + 1, 1, none⟩) h1' (.int .i64 0)).setCell (p := ⟨w.heap.size + 1, 2, none⟩) h1' (.slice none 0 0)
  go_wp2
  exact ret_cell_tmp2 T_mat rfl rfl rfl hB3 ⟨_, _, _, _, _, _, _, by rw [HF.out.1, HF.out.2]; rfl, hG3'⟩
theorem sEchelon_c {S : Nat → Prop} {v : Value} {m : Mat} {w : World} (h : VM w S v m) (hb : bdM m ≤ 1048576) : Calls Try.prog 22 #[v] w (EcPost m w) := by
 have hVM := h
 obtain ⟨a, n, c, rfl, h, -, -⟩ := h
 cases hB : isMatB m with
 | true =>
  have HB := Lib.hid hB
  obtain ⟨R, C, hmr, hmc, hR, hC, hl, hnum⟩ := isMatB_shape hB
  obtain ⟨mr, mc, cells⟩ := m
  simp only at hmr hmc hl hnum h
  subst hmr
  subst hmc
  have Hl7 := Lib.hid (fun w0 (h0 : RdI w0 S a n c cells) => l7Echelon_mat a n c C R cells w0 h0 hl hnum hR hC)
  obtain ⟨eT, heT⟩ : ∃ eT, eT = ecT { rows := (R : Int), cols := (C : Int), cells := cells } := ⟨_, rfl⟩
  obtain ⟨eO, heO⟩ : ∃ eO, eO = ecOk { rows := (R : Int), cols := (C : Int), cells := cells } := ⟨_, rfl⟩
  unfold EcPost
  rw [← heT, ← heO] at Hl7 ⊢
  clear heT heO hB
  obtain ⟨w2, hw2⟩ : ∃ w2, w2 = (w.alloc (.cells #[.int .i64 (R : Int), .int .i64 (C : Int), .slice a n c] 32)).alloc (.cells #[.int .i64 0, .int .i64 0, .slice none 0 0] 32) := ⟨_, rfl⟩
  have hG2 : Grow w w2 := by rw [hw2]; exact ((Grow.refl w).alloc _ _).alloc _ _
  have bM : Blk w2 w.heap.size #[.int .i64 (R : Int), .int .i64 (C : Int), .slice a n c] 32 := by rw [hw2]; exact (Blk.new w _ _).alloc _
  have bZ : Blk w2 (w.heap.size + 1) #[.int .i64 0, .int .i64 0, .slice none 0 0] 32 := by rw [hw2]; exact Blk.newAt _ _ _ (by simp)
  have Hw2 := Lib.hid hw2; clear hw2
  go_enter Try.func22, Try.ntmps22
  go_wp2_with fail
  rw [← Hw2.out]
  refine (sIsMatrix_c (hVM.grow hG2) (by omega)).mono ?_
  rintro e w3 ⟨rfl, hG3⟩
  rw [HB.out]
  have bM3 := bM.grow hG3
  have bZ3 := bZ.grow hG3
  obtain ⟨⟨a0, a1, a2⟩, -⟩ := bM3.three
  have hltM3 := bM3.lt
  have hltZ3 := bZ3.lt
  go_wp2_with fail
  refine (Hl7.out _ ((h.grow hG2).grow hG3)).mono ?_
  rintro e w4 ⟨x, y, sa, sn, sc, pa, pc, rfl, hG4⟩
  clear a0 a1 a2
  have hGa := (Grow.refl w4).alloc #[.int .i64 x, .int .i64 y, .slice sa sn sc] 32
  have bX := Blk.new w4 #[.int .i64 x, .int .i64 y, .slice sa sn sc] 32
  have bZ4 := bZ3.grow hG4
  have hltZ4 := bZ4.lt
  have bZ5 := bZ4.grow hGa
  have hGt := ((hG2.trans hG3).trans hG4).trans hGa
  obtain ⟨⟨x0, x1, x2⟩, -⟩ := bX.three
  obtain ⟨⟨z0, z1, z2⟩, g0, g1, g2⟩ := bZ5.three
  have hltz := bZ5.lt
  obtain ⟨⟨y0, y1, y2⟩, f0, f1, f2⟩ := bZ4.three
  have h1' : w.heap.size ≤ w.heap.size + 1 := by omega
  have hne4 : w.heap.size + 1 ≠ w4.heap.size := by omega
  have hB3 := (((bZ4.set 0 (.int .i64 x)).set 1 (.int .i64 y)).set 2 (.slice sa sn sc))
  have hG4' := (hG2.trans hG3).trans hG4
  have hG3' := ((hG4'.setCell (p := ⟨w.heap.size + 1, 0, none⟩) h1' (.int .i64 x)).setCell (p := ⟨w.heap.size + 1, 1, none⟩) h1' (.int .i64 y)).setCell (p := ⟨w.heap.size + 1, 2, none⟩) h1' (.slice sa sn sc)
  go_wp2
  exact ret_cell_tmp2 T_mat rfl rfl rfl (hB3.alloc _) ⟨_, _, _, _, _, _, _, rfl, hG3'.alloc _ _⟩
 | false =>
  have HF := Lib.hid (ec_none (echR_no hB))
  have HB := Lib.hid hB; clear hB
  obtain ⟨w2, hw2⟩ : ∃ w2, w2 = (w.alloc (.cells #[.int .i64 m.rows, .int .i64 m.cols, .slice a n c] 32)).alloc (.cells #[.int .i64 0, .int .i64 0, .slice none 0 0] 32) := ⟨_, rfl⟩
  have hG2 : Grow w w2 := by rw [hw2]; exact ((Grow.refl w).alloc _ _).alloc _ _
  have bM : Blk w2 w.heap.size #[.int .i64 m.rows, .int .i64 m.cols, .slice a n c] 32 := by rw [hw2]; exact (Blk.new w _ _).alloc _
  have bZ : Blk w2 (w.heap.size + 1) #[.int .i64 0, .int .i64 0, .slice none 0 0] 32 := by rw [hw2]; exact Blk.newAt _ _ _ (by simp)
  have Hw2 := Lib.hid hw2; clear hw2
  unfold EcPost
  go_enter Try.func22, Try.ntmps22
  go_wp2_with fail
  rw [← Hw2.out]
  refine (sIsMatrix_c (hVM.grow hG2) (by omega)).mono ?_
  rintro e w3 ⟨rfl, hG3⟩
  rw [HB.out]
  have bRz := bZ.grow (hG3.alloc #[] 3)
  have hGz := (hG2.trans hG3).alloc #[] 3
  obtain ⟨⟨z0, z1, z2⟩, g0, g1, g2⟩ := bRz.three
  have hltz := bRz.lt
  have h1' : w.heap.size ≤ w.heap.size + 1 := by omega
  have hB3 := ((bRz.set 0 (.int .i64 0)).set 1 (.int .i64 0)).set 2 (.slice none 0 0)
  have hG3' := ((hGz.setCell (p := ⟨w.heap.size + 1, 0, none⟩) h1' (.int .i64 0)).setCell (p := ⟨w.heap.size + 1, 1, none⟩) h1' (.int .i64 0)).setCell (p := ⟨w.heap.size + 1, 2, none⟩) h1' (.slice none 0 0)
  go_wp2
  exact ret_cell_tmp2 T_mat rfl rfl rfl hB3 ⟨_, _, _, _, _, _, _, by rw [HF.out.1, HF.out.2]; rfl, hG3'⟩
theorem iRankOf_c {S : Nat → Prop} {v : Value} {m : Mat} {w : World} (h : VM w S v m) (hb : bdM m ≤ 1048576) : Calls Try.prog 15 #[v] w fun e w' => e = .returned (.tuple #[.int .i64 ((ecT m : Nat) : Int), .bool (ecOk m)]) ∧ Grow w w' := by
 have hVM := h
 obtain ⟨a, n, c, rfl, h, -, -⟩ := h
 have hG1 := (Grow.refl w).alloc #[.int .i64 m.rows, .int .i64 m.cols, .slice a n c] 32
 have HE := Lib.hid (fun w0 (h0 : Grow w w0) => iEchelon_c (hVM.grow h0) hb)
 go_enter Try.func15, Try.ntmps15
 go_wp2_with fail
 refine (HE.out _ hG1).mono ?_
 rintro e w2 ⟨x, y, sa, sn, sc, pa, pc, rfl, hG2⟩
 go_wp2
 go_ret2
 exact ⟨rfl, (hG1.trans hG2).alloc _ _⟩
theorem sRankOf_c {S : Nat → Prop} {v : Value} {m : Mat} {w : World} (h : VM w S v m) (hb : bdM m ≤ 1048576) : Calls Try.prog 12 #[v] w fun e w' => e = .returned (.tuple #[.int .i64 ((ecT m : Nat) : Int), .bool (ecOk m)]) ∧ Grow w w' := by
 have hVM := h
 obtain ⟨a, n, c, rfl, h, -, -⟩ := h
 have hG1 := (Grow.refl w).alloc #[.int .i64 m.rows, .int .i64 m.cols, .slice a n c] 32
 have HE := Lib.hid (fun w0 (h0 : Grow w w0) => sEchelon_c (hVM.grow h0) hb)
 go_enter Try.func12, Try.ntmps12
 go_wp2_with fail
 refine (HE.out _ hG1).mono ?_
 rintro e w2 ⟨x, y, sa, sn, sc, pa, pc, rfl, hG2⟩
 go_wp2
 go_ret2
 exact ⟨rfl, (hG1.trans hG2).alloc _ _⟩
end Go.Proofs.Ytneeelebnnfbeaa
