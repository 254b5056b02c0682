/-
  The program's eliminate: the number of pivots.
-/
import Derived.Test.YtjepiemflpjjhaaGreatZRes
import Derived.Test.YtjepiemflpjjhaaGreatZHermS
import Derived.Test.YtjepiemflpjjhaaGreatZHermY
set_option maxHeartbeats 8000000
set_option maxRecDepth 100000
namespace Go.Proofs.YtjepiemflpjjhaaGreat
open Go.RowKit
theorem cell_part {f : Nat → Int} {m : List Int} {C R i i' j k : Nat} (hl : m.length = R * C) (hi : i < R) (hk : k ≤ C) (hj : j < C) (h : i' ≠ i ∨ k ≤ j) : cell (updR f (i * C) k m) C i' j = cell m C i' j := by
 unfold cell
 have h1 : i * C + k ≤ m.length := by
  have : (i + 1) * C ≤ R * C := Nat.mul_le_mul_right _ hi
  rw [Nat.add_mul] at this; omega
 rw [updR_getD h1, if_neg]
 rintro ⟨h2, h3⟩
 obtain ⟨e1, e2⟩ := place_eq (i := i') (i' := i) (j := j) (j' := i' * C + j - i * C) hj (by omega) (by omega)
 rcases h with h | h
 ·exact h e1
 ·subst e1; omega
theorem res_mul {p a b : Int} (hp : p ≤ 10000) (ha : 0 ≤ a ∧ a ≤ 10000) (hb : 0 ≤ b ∧ b < p) : 0 ≤ a * b ∧ a * b ≤ 100000000 := by
 have h1 := Int.mul_nonneg ha.1 hb.1
 have h2 := Int.mul_le_mul ha.2 (show b ≤ 10000 by omega) hb.1 (by omega)
 omega
theorem invX_rng {a p : Int} (hp : 2 ≤ p) : 0 ≤ invX a p ∧ invX a p < p := mod_rng hp
theorem iEliminate_c (a : Option Addr) (n cp C R : Nat) (p : Int) (m : List Int) (w : World) (h : Own w 3 1 a n cp (ints m)) (hl : m.length = R * C) (hm : ResL p m) (hp : 2 ≤ p ∧ p ≤ 10000) (hR : R ≤ 24) (hC : C ≤ 24) :
  Calls Tryz.prog 59 #[.agg #[.int .i64 R, .int .i64 C, .slice a n cp], .int .i64 C, .int .i64 p] w fun e w' => ∃ d, e = .returned (.tuple #[.int .i64 ((elN p C R C 0 0 m : Nat) : Int), .int .i64 d]) ∧ Keep (fun g => blk a ≠ some g) w w' := by
 have hnl : m.length = n := by have := h.len; simpa [ints] using this
 have hRC : R * C ≤ 24 * 24 := Nat.mul_le_mul hR hC
 have Hn := Lib.hid (show R * C = n by rw [← hnl, hl])
 have hn576 : n ≤ 576 := by omega
 obtain ⟨w2, hw2⟩ : ∃ w2, w2 = w.alloc (.cells #[.int .i64 (R : Int), .int .i64 (C : Int), .slice a n cp] 40) := ⟨_, rfl⟩
 have hG2 : Grow w w2 := by rw [hw2]; exact (Grow.refl w).alloc _ _
 have bM : Blk w2 w.heap.size #[.int .i64 (R : Int), .int .i64 (C : Int), .slice a n cp] 40 := by rw [hw2]; exact Blk.new w _ _
 have hO2 := h.grow hG2
 have hna : blk a ≠ some w.heap.size := fun e => by have := h.lt e; omega
 have Hw2 := Lib.hid hw2; clear hw2
 obtain ⟨res, hres⟩ : ∃ res, res = elN p C R C 0 0 m := ⟨_, rfl⟩
 rw [← hres]
 clear h hRC hnl
 go_enter Tryz.func59, Tryz.ntmps59
 go_wp2
 rw [← Hw2.out]
 go_loopw [8, 9, 10] (fun tv dv jv wr => Keep (fun g => blk a ≠ some g) w2 wr ∧ ∃ (t j : Nat) (d : Int) (x : List Int), t ≤ R ∧ j ≤ C ∧ tv = .int .i64 t ∧ dv = .int .i64 d ∧ jv = .int .i64 j ∧ (0 ≤ d ∧ d ≤ 10000) ∧ Own wr 3 1 a n cp (ints x) ∧ x.length = R * C ∧ ResL p x ∧ elN p C R (C - j) j t x = res) (fun _ _ jv _ => C - (intOf jv).toNat)
 case atStart => exact ⟨Keep.refl _ _, 0, 0, 1, m, Nat.zero_le _, Nat.zero_le _, rfl, rfl, rfl, by omega, hO2, hl, hm, hres.symm⟩
 case round =>
  clear hO2 hl hm hres
  obtain ⟨wo, rfl⟩ : ∃ wo, wo = wr := ⟨_, rfl⟩
  obtain ⟨hK, t, j, d, x, ht, hj, rfl, rfl, rfl, hd, hO, hxl, hx, hre⟩ := hrel
  have Hre := Lib.hid hre; have Hxl := Lib.hid hxl
  clear hre hxl
  have bMr := bM.keep hK hna
  obtain ⟨⟨a0, a1, a2⟩, -⟩ := bMr.three
  by_cases hjC : j < C
  ·by_cases htR : t < R
   ·obtain ⟨K, hKK⟩ : ∃ K, K = elK x C j (R - t) t := ⟨_, rfl⟩
    have Hsk := Lib.hid (show K = R → elN p C R (C - (j + 1)) (j + 1) t x = res from fun e => by rw [← Hre.out, show C - j = (C - (j + 1)) + 1 by omega, elN_skip htR hKK e])
    have Hst := Lib.hid (show K ≠ R → elN p C R (C - (j + 1)) (j + 1) (t + 1) (elS p C R j t K x) = res from fun e => by rw [← Hre.out, show C - j = (C - (j + 1)) + 1 by omega, elN_step htR hKK e])
    go_wp2
    go_loopw [11] (fun q u => Grow wo u ∧ ∃ k : Nat, t ≤ k ∧ k ≤ R ∧ q = .int .i64 k ∧ elK x C j (R - k) k = K) (fun q _ => R - (intOf q).toNat)
    case atStart => exact ⟨Grow.refl _, t, Nat.le_refl _, by omega, rfl, hKK.symm⟩
    case round =>
     clear hKK
     obtain ⟨u, rfl⟩ : ∃ u, u = wr := ⟨_, rfl⟩
     obtain ⟨hGu, k, htk, hk, rfl, hek⟩ := hrel
     have Hek := Lib.hid hek; clear hek
     have hOu := hO.grow hGu
     have bMu := bMr.grow hGu
     have hKu := hK.trans hGu.any
     clear a0 a1 a2
     obtain ⟨⟨a0, a1, a2⟩, -⟩ := bMu.three
     have rdu := hOu.rdI (S := fun _ => True) (fun _ _ => trivial) (num_rng (res_num hp.2 hx))
     by_cases hkR : k < R
     ·have hni : k * C + j < n := by rw [← Hn.out]; exact place_lt hjC hkR
      have hgc : x[k * C + j]? = some (cell x C k j) := get_cell (by rw [Hxl.out]; exact place_lt hjC hkR)
      go_wp2_with fail
      refine (at_c a n cp C k j _ (R : Int) _ x _ rdu rfl hgc (by omega) (by omega) (by omega) (by omega)).mono ?_
      rintro e w5 ⟨rfl, hG5⟩
      have hKu5 := hKu.trans hG5.any
      have hO5 := hOu.grow hG5
      have bM5 := bMu.grow hG5
      have hGu5 := hGu.trans hG5
      clear a0 a1 a2 bMu hgc hni rdu
      by_cases hx0 : cell x C k j = 0
      ·have HE := Lib.hid (show elK x C j (R - (k + 1)) (k + 1) = K by rw [← Hek.out, show R - k = (R - (k + 1)) + 1 by omega, elK_zero hx0])
       rw [hx0]
       go_wp2
       go_roundw
       case rel => exact ⟨hGu5, k + 1, by omega, by omega, by go_num, HE.out⟩
       case measure => simp [intOf]; omega
      ·have hkK : K = k := by rw [← Hek.out, elK_hit hx0]
       have e0 : (cell x C k j == 0) = false := by simp [hx0]
       have HS := Lib.hid (show elN p C R (C - (j + 1)) (j + 1) (t + 1) (elS p C R j t k x) = res by rw [← hkK]; exact Hst.out (by omega))
       have hne : ¬ ((k : Int) = (R : Int)) := by omega
       have e1 : ((k : Int) == (R : Int)) = false := by simp; omega
       obtain ⟨⟨a0, a1, a2⟩, -⟩ := bM5.three
       clear hkK Hst Hsk Hek
       go_upto_if 48 with fail
       clear Hre
       go_cut [9] from 17 to 129 (fun dv wx => Keep (fun g => blk a ≠ some g) w2 wx ∧ ∃ d' : Int, dv = .int .i64 d' ∧ (0 ≤ d' ∧ d' ≤ 10000) ∧ Own wx 3 1 a n cp (ints (elM1 x C t k)))
       case first =>
        by_cases hkt : k = t
        ·have q1 : ((k : Int) != (t : Int)) = false := by simp [hkt]
         have He := Lib.hid (show elM1 x C t k = x by unfold elM1; rw [if_pos hkt])
         clear hkt
         go_wp2
         go_meet
         exact ⟨hKu5, d, rfl, hd, by rw [He.out]; exact hO5⟩
        ·have q1 : ((k : Int) != (t : Int)) = true := by simp; omega
         have He := Lib.hid (show elM1 x C t k = swR x C k t by unfold elM1; rw [if_neg hkt])
         have hmr := mod_rng (a := -d) hp.1
         go_wp2_with fail
         refine (rowOpSwap_c a n cp C k t R 0 x _ hO5 Hxl.out hkR htR hkt (by omega) (by omega) (by omega)).mono ?_
         rintro e w6 ⟨rfl, hO6, hK6⟩
         clear a0 a1 a2
         go_wp2_with fail
         refine (iMod_c (-d) p _ (by unfold I64; omega) hp).mono ?_
         rintro e _ ⟨rfl, rfl⟩
         go_wp2
         go_meet
         exact ⟨hKu5.trans hK6, _, rfl, by omega, by rw [He.out]; exact hO6⟩
       case rest =>
        clear hKu5 hO5 hd a0 a1 a2 bM5 hGu5 hKu hOu hGu hO bMr hK
        obtain ⟨hK1, d1, rfl, hd1, hO1⟩ := hcut
        have hx1 : ResL p (elM1 x C t k) := elM1_res hp.1 hx
        have Hx1l := Lib.hid (show (elM1 x C t k).length = R * C by rw [elM1_len]; exact Hxl.out)
        have HS2 := Lib.hid (show elN p C R (C - (j + 1)) (j + 1) (t + 1) (elR p C j t R (elM2 (elM1 x C t k) C t j p)) = res from HS.out)
        clear HS
        generalize elM1 x C t k = y at *
        obtain ⟨w5, rfl⟩ : ∃ w5, w5 = wc := ⟨_, rfl⟩
        have bM5 := bM.keep hK1 hna
        obtain ⟨⟨a0, a1, a2⟩, -⟩ := bM5.three
        have hpl : t * C + j < n := by rw [← Hn.out]; exact place_lt hjC htR
        have hgc : y[t * C + j]? = some (cell y C t j) := get_cell (by rw [Hx1l.out]; exact place_lt hjC htR)
        have hpv := res_cell hp.1 hx1 C t j
        have hmul := res_mul hp.2 hd1 hpv
        have hmr := mod_rng (a := d1 * cell y C t j) hp.1
        have rd5 := hO1.rdI (S := fun _ => True) (fun _ _ => trivial) (num_rng (res_num hp.2 hx1))
        obtain ⟨X, hX⟩ : ∃ X, X = invX (cell y C t j) p := ⟨_, rfl⟩
        have hXr : 0 ≤ X ∧ X < p := by rw [hX]; exact invX_rng hp.1
        have HX := Lib.hid hX.symm
        have HM2 := Lib.hid (show elM2 y C t j p = updR (elV1 y C t X p) (t * C) C y by rw [hX]; rfl)
        generalize hpvv : cell y C t j = pv at *
        clear hX hpvv
        go_wp2_with fail
        refine (at_c a n cp C t j _ (R : Int) _ y _ rd5 rfl hgc (by omega) (by omega) (by omega) (by omega)).mono ?_
        rintro e w6 ⟨rfl, hG6⟩
        have bM6 := bM5.grow hG6
        clear a0 a1 a2
        obtain ⟨⟨a0, a1, a2⟩, -⟩ := bM6.three
        go_wp2_with fail
        refine (iMod_c (d1 * pv) p _ (by unfold I64; omega) hp).mono ?_
        rintro e _ ⟨rfl, rfl⟩
        generalize d1 * pv % p = d2 at *
        go_wp2_with fail
        refine (at_c a n cp C t j _ (R : Int) _ y _ (rd5.grow hG6) rfl hgc (by omega) (by omega) (by omega) (by omega)).mono ?_
        rintro e w7 ⟨rfl, hG7⟩
        have bM7 := bM6.grow hG7
        clear a0 a1 a2
        go_wp2_with fail
        refine (iInverse_c pv p _ hpv hp).mono ?_
        rintro e w8 ⟨rfl, hG8⟩
        rw [HX.out]
        have hG58 := (hG6.trans hG7).trans hG8
        have hO8 := hO1.grow hG58
        have hK8 := hK1.trans hG58.any
        clear bM6 bM7 hG6 hG7 hG8 rd5 hgc hmul bM5 hO1 hK1 hpl
        go_wp2
        go_loopw [13] (fun q u => Keep (fun g => blk a ≠ some g) w2 u ∧ ∃ c : Nat, c ≤ C ∧ q = .int .i64 c ∧ Own u 3 1 a n cp (ints (updR (elV1 y C t X p) (t * C) c y))) (fun q _ => C - (intOf q).toNat)
        case atStart => exact ⟨hK8, 0, Nat.zero_le _, rfl, hO8⟩
        case round =>
         clear hO8 hK8 hG58
         obtain ⟨u, rfl⟩ : ∃ u, u = wr := ⟨_, rfl⟩
         obtain ⟨hKp, c, hc, rfl, hO⟩ := hrel
         have bMu := bM.keep hKp hna
         obtain ⟨⟨a0, a1, a2⟩, -⟩ := bMu.three
         by_cases hcC : c < C
         ·have hzr : ResL p (updR (elV1 y C t X p) (t * C) c y) := res_updR (elV1_rng hp.1) hx1
          have hzl : (updR (elV1 y C t X p) (t * C) c y).length = R * C := by rw [updR_len]; exact Hx1l.out
          have hcell : cell (updR (elV1 y C t X p) (t * C) c y) C t c = cell y C t c := cell_part Hx1l.out htR hc hcC (.inr (Nat.le_refl _))
          have hgc : (updR (elV1 y C t X p) (t * C) c y)[t * C + c]? = some (cell y C t c) := by rw [← hcell]; exact get_cell (by rw [hzl]; exact place_lt hcC htR)
          have hpl : t * C + c < n := by rw [← Hn.out]; exact place_lt hcC htR
          have hv := res_cell hp.1 hx1 C t c
          have hmul := res_mul hp.2 (show 0 ≤ cell y C t c ∧ cell y C t c ≤ 10000 by omega) hXr
          have Hset := Lib.hid (show updR (elV1 y C t X p) (t * C) (c + 1) y = (updR (elV1 y C t X p) (t * C) c y).set (t * C + c) ((cell y C t c * X) % p) from rfl)
          have rdu := hO.rdI (S := fun _ => True) (fun _ _ => trivial) (num_rng (res_num hp.2 hzr))
          clear hcell hzl hzr
          generalize cell y C t c = cv at *
          generalize updR (elV1 y C t X p) (t * C) c y = z at *
          go_wp2
          refine wp_region_segsX (S := (Grow u)) (last := 11) [([0, 1, 2, 3, 4, 5, 7, 9], some 6), ([8], some 10), ([], some 11)] P_mixed (by kernel_rfl) (fun _ _ _ _ _ h => h) (Grow.refl _).drew ?_
          show wpQuiet _ _ _ _ [_, _, _, _, _, _, _, _] _
          repeat (first | go_big_quiet_skip | (go_big_quiet_want; first | (apply quiet_load3 T_mat; rfl; rfl; exact (fun w' hG => bMu.grow hG); go_big_quiet_on; simp only [Act.put, List.setIfInBounds_toArray, List.set_cons_succ, List.set_cons_zero]) | (go_big_quiet_op; first | go_big_quiet_on | (refine ⟨_, (fun _ _ => rfl), ?_⟩; go_big_quiet_on))))
          refine wpQuiet_nil ?_
          refine seg_goX rfl (fun K hK => ?_)
          go_wp2_with fail
          refine (at_c a n cp C t c _ (R : Int) _ z _ (rdu.grow (Grow.refl _).drew) rfl hgc (by omega) (by omega) (by omega) (by omega)).mono ?_
          rintro e w9 ⟨rfl, hG9⟩
          have hGu := (Grow.refl u).drew.trans hG9
          go_wp2_with fail
          refine hK _ _ ((fun _ => hGu)) ?_
          clear hK K
          show wpQuiet _ _ _ _ [_] _
          try (conv => arg 6; simp only [Act.put, List.setIfInBounds_toArray, List.set_cons_succ, List.set_cons_zero])
          repeat (first | go_big_quiet_skip | (go_big_quiet_want; first | (apply quiet_load3 T_mat; rfl; rfl; exact (fun w' hG => bMu.grow hG); go_big_quiet_on; simp only [Act.put, List.setIfInBounds_toArray, List.set_cons_succ, List.set_cons_zero]) | (go_big_quiet_op; first | go_big_quiet_on | (refine ⟨_, (fun _ _ => rfl), ?_⟩; go_big_quiet_on))))
          refine wpQuiet_nil ?_
          refine seg_goX rfl (fun K hK => ?_)
          go_wp2_with fail
          refine (iMod_c (cv * X) p _ (by unfold I64; omega) hp).mono ?_
          rintro e _ ⟨rfl, rfl⟩
          go_wp2_with fail
          refine hK _ _ ((fun _ => hGu)) ?_
          clear hK K
          show wpQuiet _ _ _ _ [] _
          try (conv => arg 6; simp only [Act.put, List.setIfInBounds_toArray, List.set_cons_succ, List.set_cons_zero])
          refine wpQuiet_nil ?_
          refine seg_goX rfl (fun K hK => ?_)
          go_wp2_with fail
          refine (set_c a n cp C t c _ (R : Int) _ _ _ (hO.grow hGu) rfl hpl (by omega) (by omega) (by omega) (by omega)).mono ?_
          rintro e w10 ⟨rfl, hO10, hK10⟩
          rw [← Hset.out] at hO10
          have hK11 : Keep (fun g => blk a ≠ some g) w2 w10 := (hKp.trans hGu.any).trans hK10
          go_wp2_with fail
          refine hK _ _ ((fun h => (h rfl).elim)) ?_
          clear hK K
          refine wpSegsX_nil ?_
          go_wp2
          go_roundw
          case rel => exact ⟨hK11, c + 1, by omega, by go_num, hO10⟩
          case measure => simp [intOf]; omega
         ·have hcE : c = C := by omega
          rw [hcE, ← HM2.out] at hO
          have hy2 : ResL p (elM2 y C t j p) := elM2_res hp.1 hx1
          have Hy2l := Lib.hid (show (elM2 y C t j p).length = R * C by rw [elM2_len]; exact Hx1l.out)
          clear HM2 hx1 HX Hx1l hXr hpv
          generalize elM2 y C t j p = y2 at *
          go_wp2
          go_loopw [14] (fun q u => Keep (fun g => blk a ≠ some g) w2 u ∧ ∃ i : Nat, i ≤ R ∧ q = .int .i64 i ∧ Own u 3 1 a n cp (ints (elR p C j t i y2))) (fun q _ => R - (intOf q).toNat)
          case atStart => exact ⟨hKp, 0, Nat.zero_le _, rfl, hO⟩
          case round =>
           clear hO hKp a0 a1 a2 bMu hcC hcE
           obtain ⟨u0, rfl⟩ : ∃ u0, u0 = wr := ⟨_, rfl⟩
           obtain ⟨hKp, i, hi, rfl, hO⟩ := hrel
           have bMu := bM.keep hKp hna
           obtain ⟨⟨a0, a1, a2⟩, -⟩ := bMu.three
           have hzr : ResL p (elR p C j t i y2) := elR_res hp.1 hy2 i
           have Hzl := Lib.hid (show (elR p C j t i y2).length = R * C by rw [elR_len]; exact Hy2l.out)
           by_cases hiR : i < R
           ·have Hself := Lib.hid (fun h => elR_self (p := p) (C := C) (j := j) (t := t) (n := i) (m := y2) h)
            have Hupd := Lib.hid (fun h => elR_upd (p := p) (C := C) (j := j) (t := t) (n := i) (m := y2) h)
            generalize elR p C j t i y2 = z at *
            have hpl : i * C + j < n := by rw [← Hn.out]; exact place_lt hjC hiR
            have hgc : z[i * C + j]? = some (cell z C i j) := get_cell (by rw [Hzl.out]; exact place_lt hjC hiR)
            have hfr := res_cell hp.1 hzr C i j
            have rdu := hO.rdI (S := fun _ => True) (fun _ _ => trivial) (num_rng (res_num hp.2 hzr))
            have Hf := Lib.hid (show ∀ c, elV2 z C i j t p c = (cell z C i c - cell z C i j * cell z C t c) % p from fun _ => rfl)
            generalize cell z C i j = f at *
            go_wp2_with fail
            refine (at_c a n cp C i j _ (R : Int) _ z _ rdu rfl hgc (by omega) (by omega) (by omega) (by omega)).mono ?_
            rintro e w9 ⟨rfl, hG9⟩
            have hO9 := hO.grow hG9
            have hK9 := hKp.trans hG9.any
            clear a0 a1 a2 bMu hO hKp rdu hgc hpl hG9
            by_cases hit : i = t
            ·have Hz1 := Lib.hid (Hself.out hit)
             have q1 : ((i : Int) != (t : Int)) = false := by simp [hit]
             go_wp2
             go_loopw [16] (fun q u => w9 = u ∧ q = .int .i64 0) (fun _ _ => 0)
             case atStart => exact ⟨rfl, rfl⟩
             case round =>
              obtain ⟨rfl, rfl⟩ := hrel
              have bM9 := bM.keep hK9 hna
              obtain ⟨⟨a0, a1, a2⟩, -⟩ := bM9.three
              have h0C : (0 : Int) < (C : Int) := by omega
              go_wp2
              go_roundw
              case rel => exact ⟨hK9, i + 1, by omega, by go_num, by rw [Hz1.out]; exact hO9⟩
              case measure => simp [intOf]; omega
            ·have Hz1 := Lib.hid (Hupd.out hit)
             have q1 : ((i : Int) != (t : Int)) = true := by simp; omega
             go_wp2
             go_loopw [16] (fun q u => Keep (fun g => blk a ≠ some g) w2 u ∧ ∃ c : Nat, c ≤ C ∧ q = .int .i64 c ∧ Own u 3 1 a n cp (ints (updR (elV2 z C i j t p) (i * C) c z))) (fun q _ => C - (intOf q).toNat)
             case atStart => exact ⟨hK9, 0, Nat.zero_le _, rfl, hO9⟩
             case round =>
              clear hK9 hO9
              obtain ⟨u, rfl⟩ : ∃ u, u = wr := ⟨_, rfl⟩
              obtain ⟨hKp, c, hc, rfl, hO⟩ := hrel
              have bMu := bM.keep hKp hna
              obtain ⟨⟨a0, a1, a2⟩, -⟩ := bMu.three
              by_cases hcC : c < C
              ·have hyr : ResL p (updR (elV2 z C i j t p) (i * C) c z) := res_updR (elV2_rng hp.1) hzr
               have hyl : (updR (elV2 z C i j t p) (i * C) c z).length = R * C := by rw [updR_len]; exact Hzl.out
               have hcell : cell (updR (elV2 z C i j t p) (i * C) c z) C i c = cell z C i c := cell_part Hzl.out hiR hc hcC (.inr (Nat.le_refl _))
               have hcell2 : cell (updR (elV2 z C i j t p) (i * C) c z) C t c = cell z C t c := cell_part Hzl.out hiR hc hcC (.inl (fun e => hit e.symm))
               have hgc : (updR (elV2 z C i j t p) (i * C) c z)[i * C + c]? = some (cell z C i c) := by rw [← hcell]; exact get_cell (by rw [hyl]; exact place_lt hcC hiR)
               have hgc2 : (updR (elV2 z C i j t p) (i * C) c z)[t * C + c]? = some (cell z C t c) := by rw [← hcell2]; exact get_cell (by rw [hyl]; exact place_lt hcC htR)
               have hpl : i * C + c < n := by rw [← Hn.out]; exact place_lt hcC hiR
               have hv := res_cell hp.1 hzr C i c
               have hv2 := res_cell hp.1 hzr C t c
               have hmul := res_mul hp.2 (show 0 ≤ f ∧ f ≤ 10000 by omega) hv2
               have Hset := Lib.hid (show updR (elV2 z C i j t p) (i * C) (c + 1) z = (updR (elV2 z C i j t p) (i * C) c z).set (i * C + c) ((cell z C i c - f * cell z C t c) % p) by rw [← Hf.out]; rfl)
               have rdu := hO.rdI (S := fun _ => True) (fun _ _ => trivial) (num_rng (res_num hp.2 hyr))
               clear hcell hcell2 hyl hyr
               generalize cell z C i c = cv at *
               generalize cell z C t c = cw at *
               generalize updR (elV2 z C i j t p) (i * C) c z = zz at *
               go_wp2
               refine wp_region_segsX (S := (Grow u)) (last := 16) [([0, 1, 2, 3, 4, 5, 7, 8, 9, 10, 14], some 6), ([], some 11), ([12, 13], some 15), ([], some 16)] P_mixed (by kernel_rfl) (fun _ _ _ _ _ h => h) (Grow.refl _).drew ?_
               show wpQuiet _ _ _ _ [_, _, _, _, _, _, _, _, _, _, _] _
               repeat (first | go_big_quiet_skip | (go_big_quiet_want; first | (apply quiet_load3 T_mat; rfl; rfl; exact (fun w' hG => bMu.grow hG); go_big_quiet_on; simp only [Act.put, List.setIfInBounds_toArray, List.set_cons_succ, List.set_cons_zero]) | (go_big_quiet_op; first | go_big_quiet_on | (refine ⟨_, (fun _ _ => rfl), ?_⟩; go_big_quiet_on))))
               refine wpQuiet_nil ?_
               refine seg_goX rfl (fun K hK => ?_)
               go_wp2_with fail
               refine (at_c a n cp C i c _ (R : Int) _ zz _ (rdu.grow (Grow.refl _).drew) rfl hgc (by omega) (by omega) (by omega) (by omega)).mono ?_
               rintro e w10 ⟨rfl, hG10⟩
               have hGu := (Grow.refl u).drew.trans hG10
               go_wp2_with fail
               refine hK _ _ ((fun _ => hGu)) ?_
               clear hK K
               show wpQuiet _ _ _ _ [] _
               try (conv => arg 6; simp only [Act.put, List.setIfInBounds_toArray, List.set_cons_succ, List.set_cons_zero])
               refine wpQuiet_nil ?_
               refine seg_goX rfl (fun K hK => ?_)
               go_wp2_with fail
               refine (at_c a n cp C t c _ (R : Int) _ zz _ (rdu.grow hGu) rfl hgc2 (by omega) (by omega) (by omega) (by omega)).mono ?_
               rintro e w11 ⟨rfl, hG11⟩
               have hGv := hGu.trans hG11
               go_wp2_with fail
               refine hK _ _ ((fun _ => hGv)) ?_
               clear hK K
               show wpQuiet _ _ _ _ [_, _] _
               try (conv => arg 6; simp only [Act.put, List.setIfInBounds_toArray, List.set_cons_succ, List.set_cons_zero])
               repeat (first | go_big_quiet_skip | (go_big_quiet_want; first | (apply quiet_load3 T_mat; rfl; rfl; exact (fun w' hG => bMu.grow hG); go_big_quiet_on; simp only [Act.put, List.setIfInBounds_toArray, List.set_cons_succ, List.set_cons_zero]) | (go_big_quiet_op; first | go_big_quiet_on | (refine ⟨_, (fun _ _ => rfl), ?_⟩; go_big_quiet_on))))
               refine wpQuiet_nil ?_
               refine seg_goX rfl (fun K hK => ?_)
               go_wp2_with fail
               refine (iMod_c (cv - f * cw) p _ (by unfold I64; omega) hp).mono ?_
               rintro e _ ⟨rfl, rfl⟩
               go_wp2_with fail
               refine hK _ _ ((fun _ => hGv)) ?_
               clear hK K
               show wpQuiet _ _ _ _ [] _
               try (conv => arg 6; simp only [Act.put, List.setIfInBounds_toArray, List.set_cons_succ, List.set_cons_zero])
               refine wpQuiet_nil ?_
               refine seg_goX rfl (fun K hK => ?_)
               go_wp2_with fail
               refine (set_c a n cp C i c _ (R : Int) _ _ _ (hO.grow hGv) rfl hpl (by omega) (by omega) (by omega) (by omega)).mono ?_
               rintro e w12 ⟨rfl, hO12, hK12⟩
               rw [← Hset.out] at hO12
               have hK13 : Keep (fun g => blk a ≠ some g) w2 w12 := (hKp.trans hGv.any).trans hK12
               go_wp2_with fail
               refine hK _ _ ((fun h => (h rfl).elim)) ?_
               clear hK K
               refine wpSegsX_nil ?_
               go_wp2
               go_roundw
               case rel => exact ⟨hK13, c + 1, by omega, by go_num, hO12⟩
               case measure => simp [intOf]; omega
              ·have hcE : c = C := by omega
               rw [hcE, ← Hz1.out] at hO
               go_wp2
               go_roundw
               case rel => exact ⟨hKp, i + 1, by omega, by go_num, hO⟩
               case measure => simp [intOf]; omega
           ·have hiE : i = R := by omega
            rw [hiE] at hO hzr Hzl
            go_wp2
            go_roundw
            case rel => exact ⟨hKp, t + 1, j + 1, d2, _, by omega, by omega, by go_num, rfl, by go_num, by omega, hO, Hzl.out, hzr, HS2.out⟩
            case measure => simp [intOf]; omega
     ·have hkE : k = R := by omega
      have hKR : K = R := by rw [← Hek.out, hkE, Nat.sub_self]; rfl
      have HS := Lib.hid (Hsk.out hKR)
      have e1 : ((k : Int) == (R : Int)) = true := by simp [hkE]
      go_wp2
      go_roundw
      case rel => exact ⟨hKu, t, j + 1, d, x, by omega, by omega, rfl, rfl, by go_num, hd, hOu, Hxl.out, hx, HS.out⟩
      case measure => simp [intOf]; omega
   ·have HE := Lib.hid (show (t : Nat) = res by rw [← Hre.out, elN_full htR])
    go_wp2
    go_ret2
    exact ⟨_, by rw [← HE.out]; rfl, hG2.any.trans hK⟩
  ·have HE := Lib.hid (show (t : Nat) = res by rw [← Hre.out, show C - j = 0 by omega]; rfl)
   go_wp2
   go_ret2
   exact ⟨_, by rw [← HE.out]; rfl, hG2.any.trans hK⟩
end Go.Proofs.YtjepiemflpjjhaaGreat
