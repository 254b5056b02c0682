/-
  The reference's elimination: the number of pivots.
-/
import Derived.Test.YtjepiemflpjjhaaGreatZResE
import Derived.Test.YtjepiemflpjjhaaGreatZHermF
set_option maxHeartbeats 8000000
set_option maxRecDepth 100000
namespace Go.Proofs.YtjepiemflpjjhaaGreat
open Go.RowKit
theorem ret_cell_tmp2 {P : Program} {fn : Func} {R : Ending → World → Prop} {a : Act} {w : World} {ty : TypeId} {cs : Array Value} {p u v : Tmp} {g : Nat} {t : TypeId} (hT : StT P ty cs.size) (h : fn.results = #[.cell p ty, .tmp u, .tmp v]) (hd : a.defers = []) (hp : a.tmps.getD p undef = .pointer (some ⟨g, 0, none⟩))
  (hb : Blk w g cs t) (hR : R (.returned (.tuple #[.agg cs, a.tmps.getD u undef, a.tmps.getD v undef])) w) : bodyPost P fn R .ret a w := by
 have hp' : a.tmps[p]?.getD undef = .pointer (some ⟨g, 0, none⟩) := by simpa using hp
 refine bodyPost_ret (v := .tuple #[.agg cs, a.tmps.getD u undef, a.tmps.getD v undef]) ?_ hd hR
 simp [results, h, hp', asAddr, hT.load hb]
theorem elM1_piv {x : List Int} {C R t k j : Nat} (hl : x.length = R * C) (hk : k < R) (ht : t < R) (hj : j < C) : cell (elM1 x C t k) C t j = cell x C k j := by
 unfold elM1
 split
 ·next h => rw [h]
 ·next h => rw [cell_swR hl hk ht h hj, if_neg (fun e => h e.symm), if_pos rfl]
theorem sEliminate_c {S : Nat → Prop} (a : Option Addr) (n cp C R : Nat) (p : Int) (m : List Int) (w : World) (h : RdI w S a n cp m) (hl : m.length = R * C) (hm : ResL p m) (hpr : prB p = true) (hR : R ≤ 24) (hC : C ≤ 24) :
  Calls Tryz.prog 66 #[.agg #[.int .i64 R, .int .i64 C, .slice a n cp], .int .i64 p, .int .i64 C] w fun e w' => ∃ x y sa sn sc pa pc d, e = .returned (.tuple #[.agg #[.int .i64 x, .int .i64 y, .slice sa sn sc], .slice pa (elN p C R C 0 0 m) pc, .int .i64 d]) ∧ Grow w w' := by
 have hp := prB_rng hpr
 have Hpr := Lib.hid hpr
 have hp0 : p ≠ 0 := by omega
 have hnl : m.length = n := h.len
 have hRC : R * C ≤ 24 * 24 := Nat.mul_le_mul hR hC
 have Hn := Lib.hid (show R * C = n by rw [← hnl, hl])
 have hn576 : n ≤ 576 := by omega
 obtain ⟨w2, hw2⟩ : ∃ w2, w2 = (w.alloc (.cells #[.int .i64 (R : Int), .int .i64 (C : Int), .slice a n cp] 40)).alloc (.cells #[.int .i64 0, .int .i64 0, .slice none 0 0] 40) := ⟨_, rfl⟩
 have hG2 : Grow w w2 := by rw [hw2]; exact ((Grow.refl w).alloc _ _).alloc _ _
 have bZ : Blk w2 (w.heap.size + 1) #[.int .i64 0, .int .i64 0, .slice none 0 0] 40 := by rw [hw2]; exact Blk.newAt _ _ _ (by simp)
 have hVM : VM w2 S (.agg #[.int .i64 (R : Int), .int .i64 (C : Int), .slice a n cp]) { rows := (R : Int), cols := (C : Int), cells := m } := ⟨a, n, cp, rfl, h.grow hG2, by unfold I64; simp only; omega, by unfold I64; simp only; omega⟩
 have hbd : bdM { rows := (R : Int), cols := (C : Int), cells := m } ≤ 1048576 := by unfold bdM; simp only; omega
 have Hw2 := Lib.hid hw2
 have hsz2 : w2.heap.size = w.heap.size + 1 + 1 := by rw [hw2]; simp
 clear hw2
 obtain ⟨res, hres⟩ : ∃ res, res = elN p C R C 0 0 m := ⟨_, rfl⟩
 rw [← hres]
 clear hRC hnl hpr h
 go_enter Tryz.func66, Tryz.ntmps66
 go_wp2_with fail
 rw [← Hw2.out]
 refine (l3Copy_c hVM hbd).mono ?_
 rintro e w4 ⟨rv, rfl, hR4, hG4⟩
 obtain ⟨ra, rn, rc, rfl, oR, rR, fR, i1, i2⟩ := hR4
 simp only at oR rR i1 i2
 have hrn0 : m.length = rn := by simpa [ints] using oR.len
 have hrn : rn = n := by rw [← hrn0, hl]; exact Hn.out
 clear hrn0
 subst hrn
 obtain ⟨w5, hw5⟩ : ∃ w5, w5 = (w4.alloc (.cells #[.int .i64 (R : Int), .int .i64 (C : Int), .slice ra rn rc] 40)).alloc (.cells #[] 3) := ⟨_, rfl⟩
 have hG5 : Grow w4 w5 := by rw [hw5]; exact ((Grow.refl w4).alloc _ _).alloc _ _
 have bO5 : Blk w5 w4.heap.size #[.int .i64 (R : Int), .int .i64 (C : Int), .slice ra rn rc] 40 := by rw [hw5]; exact (Blk.new w4 _ _).alloc _
 have oP5 : Own w5 3 1 (some ⟨w4.heap.size + 1, 0, none⟩) 0 0 [] := by rw [hw5]; exact Own.freshAt (cs := #[]) (by simp) (by unfold maxLen; omega) rfl
 have hO5 := oR.grow hG5
 have hlo : ∀ g, blk ra = some g → w2.heap.size ≤ g := fun g hg => (fR g hg).1
 have hlt4 : ∀ g, blk ra = some g → g < w4.heap.size := fun g hg => (fR g hg).2
 have hs4 := hG4.size
 have hs5 : w5.heap.size = w4.heap.size + 1 + 1 := by rw [hw5]; simp
 have bZ5 := (bZ.grow hG4).grow hG5
 have hG15 := (hG2.trans hG4).trans hG5
 have Hw5 := Lib.hid hw5
 clear hw5 oR hVM hbd bZ
 go_wp2
 rw [← Hw5.out]
 go_loopw [10, 11, 12] (fun pv dv jv wr => Keep (fun g => blk ra ≠ some g ∧ g ≤ w4.heap.size) w5 wr ∧ ∃ (t j pc : Nat) (d : Int) (x L : List Int) (pa : Option Addr), t ≤ R ∧ j ≤ C ∧ pv = .slice pa t pc ∧ dv = .int .i64 d ∧ jv = .int .i64 j ∧ (0 ≤ d ∧ d ≤ 10000) ∧ Own wr 3 1 pa t pc (ints L) ∧ (∀ g, blk pa = some g → w4.heap.size < g) ∧ Own wr 3 1 ra rn rc (ints x) ∧ x.length = R * C ∧ ResL p x ∧ elN p C R (C - j) j t x = res) (fun _ _ jv _ => C - (intOf jv).toNat)
 case atStart => exact ⟨Keep.refl _ _, 0, 0, 0, 1, m, [], _, Nat.zero_le _, Nat.zero_le _, rfl, rfl, rfl, by omega, by simpa [ints] using oP5, fun g hg => by simp at hg; omega, hO5, hl, hm, hres.symm⟩
 case round =>
  clear hO5 hl hm hres oP5
  obtain ⟨wo, rfl⟩ : ∃ wo, wo = wr := ⟨_, rfl⟩
  obtain ⟨hK, t, j, pc, d, x, L, pa, ht, hj, rfl, rfl, rfl, hd, hP, hPlo, hO, hxl, hx, hre⟩ := hrel
  have Hre := Lib.hid hre; have Hxl := Lib.hid hxl
  clear hre hxl
  have bOr := bO5.keep hK ⟨fun e => by have := hlt4 _ e; omega, Nat.le_refl _⟩
  obtain ⟨⟨o0, o1, o2⟩, -⟩ := bOr.three
  by_cases hjC : j < C
  ·by_cases htR : t < R
   ·obtain ⟨K, hKK⟩ : ∃ K, K = elK x C j (R - t) t := ⟨_, rfl⟩
    have Hsk := Lib.hid (show K = R → elN p C R (C - (j + 1)) (j + 1) t x = res from fun e => by rw [← Hre.out, show C - j = (C - (j + 1)) + 1 by omega, elN_skip htR hKK e])
    have Hst := Lib.hid (show K ≠ R → elN p C R (C - (j + 1)) (j + 1) (t + 1) (elS p C R j t K x) = res from fun e => by rw [← Hre.out, show C - j = (C - (j + 1)) + 1 by omega, elN_step htR hKK e])
    have hnp : 0 < rn := by have := place_lt hjC htR; rw [Hn.out] at this; omega
    obtain ⟨pb, rfl⟩ : ∃ pb, ra = some ⟨pb, 0, none⟩ := by
     cases ra with
     | none => have := hO.nil rfl; have := hO.le; omega
     | some q => exact ⟨q.block, by rw [← (hO.block q rfl).1]⟩
    have hpb := hO.lt (g := pb) rfl
    have hle := hO.le
    go_wp2
    go_loopw [14] (fun q u => wo = u ∧ ∃ k : Nat, t ≤ k ∧ k ≤ R ∧ q = .int .i64 k ∧ elK x C j (R - k) k = K) (fun q _ => R - (intOf q).toNat)
    case atStart => exact ⟨rfl, t, Nat.le_refl _, by omega, rfl, hKK.symm⟩
    case round =>
     clear hKK
     obtain ⟨rfl, k, htk, hk, rfl, hek⟩ := hrel
     have Hek := Lib.hid hek; clear hek
     by_cases hkR : k < R
     ·have hni : k * C + j < rn := by rw [← Hn.out]; exact place_lt hjC hkR
      have hcx : wo.cell? ⟨pb, k * C + j, none⟩ = some (.int .i64 (cell x C k j)) := by
       have h := hO.cell (ints_get (xs := x) (j := k * C + j) (by rw [Hxl.out]; exact place_lt hjC hkR) rfl)
       simp only at h
       exact h
      have u1 := mul_wrap (i := k) (c := C) (by omega) (by omega)
      have u2 := idx_wrap (i := k) (c := C) (j := j) (by omega) (by omega) (by omega) rfl
      by_cases hx0 : cell x C k j = 0
      ·have HE := Lib.hid (show elK x C j (R - (k + 1)) (k + 1) = K by rw [← Hek.out, show R - k = (R - (k + 1)) + 1 by omega, elK_zero hx0])
       rw [hx0] at hcx
       generalize k * C + j = s1 at *
       go_wp2
       go_roundw
       case rel => exact ⟨by trivial, k + 1, by omega, by omega, by go_num, HE.out⟩
       case measure => simp [intOf]; omega
      ·have hkK : K = k := by rw [← Hek.out, elK_hit hx0]
       have e0 : (cell x C k j == 0) = false := by simp [hx0]
       have HS := Lib.hid (show elN p C R (C - (j + 1)) (j + 1) (t + 1) (elS p C R j t k x) = res by rw [← hkK]; exact Hst.out (by omega))
       have hne : ¬ ((k : Int) = (R : Int)) := by omega
       have e1 : ((k : Int) == (R : Int)) = false := by simp; omega
       have Hx0 := Lib.hid hx0
       clear hkK Hst Hsk Hek hx0
       generalize hs1 : k * C + j = s1 at *
       clear hs1
       go_upto_if 64 with fail
       clear Hre u1 u2
       have Hpc := Lib.hid (elM1_piv Hxl.out hkR htR hjC)
       go_cut [11] from 24 to 200 (fun dv wx => Keep (fun g => blk (some (⟨pb, 0, none⟩ : Addr)) ≠ some g ∧ g ≤ w4.heap.size) w5 wx ∧ ∃ d' : Int, dv = .int .i64 d' ∧ (0 ≤ d' ∧ d' ≤ 10000) ∧ Own wx 3 1 pa t pc (ints L) ∧ Own wx 3 1 (some ⟨pb, 0, none⟩) rn rc (ints (elM1 x C t k)))
       case first =>
        by_cases hkt : k = t
        ·have q1 : ((k : Int) != (t : Int)) = false := by simp [hkt]
         have He := Lib.hid (show elM1 x C t k = x by unfold elM1; rw [if_pos hkt])
         clear hkt
         go_wp2
         go_meet
         exact ⟨hK, d, rfl, hd, hP, by rw [He.out]; exact hO⟩
        ·have q1 : ((k : Int) != (t : Int)) = true := by simp; omega
         have He := Lib.hid (show elM1 x C t k = swR x C k t by unfold elM1; rw [if_neg hkt])
         have hmr := mod_rng (a := -d) hp.1
         go_wp2_with fail
         refine (l5Swap_c (some ⟨pb, 0, none⟩) rn rc C k t R 0 x _ hO Hxl.out hkR htR hkt (res_num hp.2 hx) (by omega) (by omega) (by omega) (by omega)).mono ?_
         rintro e w6 ⟨rfl, hO6, hK6⟩
         clear o0 o1 o2 hcx
         go_wp2_with fail
         refine (sMod_c (-d) p _ (by unfold I64; omega) hp).mono ?_
         rintro e _ ⟨rfl, rfl⟩
         go_wp2
         go_meet
         exact ⟨hK.trans (hK6.mono fun g _ hg => hg.1), _, rfl, by omega, hP.keep hK6 (fun g hg _ e => by have h1 := hPlo g hg; have h2 := hlt4 pb rfl; have e2 : pb = g := (by simpa using e); omega), by rw [He.out]; exact hO6⟩
       case rest =>
        clear hK hP hO hd o0 o1 o2 bOr hcx hle hpb
        obtain ⟨hK1, d1, rfl, hd1, hP1, hO1⟩ := hcut
        have hx1 : ResL p (elM1 x C t k) := elM1_res hp.1 hx
        have Hx1l := Lib.hid (show (elM1 x C t k).length = R * C by rw [elM1_len]; exact Hxl.out)
        have HS2 := Lib.hid (show elN p C R (C - (j + 1)) (j + 1) (t + 1) (elR p C j t R (elM2 (elM1 x C t k) C t j p)) = res from HS.out)
        clear HS
        generalize elM1 x C t k = y at *
        obtain ⟨wq, rfl⟩ : ∃ wq, wq = wc := ⟨_, rfl⟩
        have bO1 := bO5.keep hK1 ⟨fun e => by have := hlt4 _ e; omega, Nat.le_refl _⟩
        obtain ⟨⟨o0, o1, o2⟩, -⟩ := bO1.three
        have hni1 : t * C + j < rn := by rw [← Hn.out]; exact place_lt hjC htR
        have hcx : wq.cell? ⟨pb, t * C + j, none⟩ = some (.int .i64 (cell y C t j)) := by
         have h := hO1.cell (ints_get (xs := y) (j := t * C + j) (by rw [Hx1l.out]; exact place_lt hjC htR) rfl)
         simp only at h
         exact h
        have hpb := hO1.lt (g := pb) rfl
        have hle := hO1.le
        have u1 := mul_wrap (i := t) (c := C) (by omega) (by omega)
        have u2 := idx_wrap (i := t) (c := C) (j := j) (by omega) (by omega) (by omega) rfl
        have hpv := res_cell hp.1 hx1 C t j
        have hmul := res_mul hp.2 hd1 hpv
        have hmr := mod_rng (a := d1 * cell y C t j) hp.1
        obtain ⟨X, hX⟩ : ∃ X, X = invX (cell y C t j) p := ⟨_, rfl⟩
        have hXr : 0 ≤ X ∧ X < p := by rw [hX]; exact invX_rng hp.1
        have HX := Lib.hid hX.symm
        have HM2 := Lib.hid (show elM2 y C t j p = updR (elV1 y C t X p) (t * C) C y by rw [hX]; rfl)
        have hpos : 0 < cell y C t j := by
         have h1 := Hpc.out
         have h2 := Hx0.out
         rw [← h1] at h2
         omega
        clear Hpc Hx0
        generalize hpvv : cell y C t j = pv at *
        clear hX hpvv
        generalize hs1 : t * C + j = s1 at *
        clear hs1
        go_wp2_with fail
        refine (sInverse_c pv p _ ⟨hpos, hpv.2⟩ Hpr.out).mono ?_
        rintro e _ ⟨rfl, rfl⟩
        rw [HX.out]
        generalize d1 * pv % p = d2 at *
        clear hcx u1 u2 hni1 hmul o0 o1 o2 bO1
        go_wp2
        go_loopw [17] (fun q u => Keep (fun g => blk (some (⟨pb, 0, none⟩ : Addr)) ≠ some g) wq u ∧ ∃ c : Nat, c ≤ C ∧ q = .int .i64 c ∧ Own u 3 1 (some ⟨pb, 0, none⟩) rn rc (ints (updR (elV1 y C t X p) (t * C) c y))) (fun q _ => C - (intOf q).toNat)
        case atStart => exact ⟨Keep.refl _ _, 0, Nat.zero_le _, rfl, hO1⟩
        case round =>
         clear hO1
         obtain ⟨u, rfl⟩ : ∃ u, u = wr := ⟨_, rfl⟩
         obtain ⟨hKp, c, hc, rfl, hO⟩ := hrel
         have hKu := hK1.trans (hKp.mono fun g _ hg => hg.1)
         have bOu := bO5.keep hKu ⟨fun e => by have := hlt4 _ e; omega, Nat.le_refl _⟩
         obtain ⟨⟨o0, o1, o2⟩, -⟩ := bOu.three
         by_cases hcC : c < C
         ·have hzl : (updR (elV1 y C t X p) (t * C) c y).length = R * C := by rw [updR_len]; exact Hx1l.out
          have hcell : cell (updR (elV1 y C t X p) (t * C) c y) C t c = cell y C t c := cell_part Hx1l.out htR hc hcC (.inr (Nat.le_refl _))
          have hni : t * C + c < rn := by rw [← Hn.out]; exact place_lt hcC htR
          have hcx : u.cell? ⟨pb, t * C + c, none⟩ = some (.int .i64 (cell y C t c)) := by
           have h := hO.cell (ints_get (j := t * C + c) (by rw [hzl]; exact place_lt hcC htR) (show (updR (elV1 y C t X p) (t * C) c y).getD (t * C + c) 0 = cell y C t c from hcell))
           simp only at h
           exact h
          have hpb := hO.lt (g := pb) rfl
          have hle := hO.le
          have hv := res_cell hp.1 hx1 C t c
          have hmul := res_mul hp.2 (show 0 ≤ cell y C t c ∧ cell y C t c ≤ 10000 by omega) hXr
          have Hset := Lib.hid (show updR (elV1 y C t X p) (t * C) (c + 1) y = (updR (elV1 y C t X p) (t * C) c y).set (t * C + c) ((cell y C t c * X) % p) from rfl)
          have u1 := mul_wrap (i := t) (c := C) (by omega) (by omega)
          have u2 := idx_wrap (i := t) (c := C) (j := c) (by omega) (by omega) (by omega) rfl
          have hO1 := hO
          clear hcell hzl hO
          generalize cell y C t c = cv at *
          generalize updR (elV1 y C t X p) (t * C) c y = z at *
          generalize t * C + c = s1 at *
          go_wp2
          refine wp_region_segsX (S := (Grow u)) (last := 23) [([0, 1, 2, 3, 4, 5, 6, 7, 8, 9, 10, 11, 12, 13, 14, 15, 16, 17, 18, 19, 20, 21, 22], some 23)] P_mixed (by kernel_rfl) (fun _ _ _ _ _ h => h) (Grow.refl _).drew ?_
          show wpQuiet _ _ _ _ [_, _, _, _, _, _, _, _, _, _, _, _, _, _, _, _, _, _, _, _, _, _, _] _
          repeat (first | go_big_quiet_skip | (go_big_quiet_want; first | (apply quiet_load CT_ints; rfl; rfl; exact (fun w' hG => hG.cell o2); go_big_quiet_on; simp only [Act.put, List.setIfInBounds_toArray, List.set_cons_succ, List.set_cons_zero]) | (apply quiet_load CT_int; rfl; rfl; exact (fun w' hG => hG.cell o1); go_big_quiet_on; simp only [Act.put, List.setIfInBounds_toArray, List.set_cons_succ, List.set_cons_zero]) | (apply quiet_load CT_int; rfl; rfl; exact (fun w' hG => hG.cell hcx); go_big_quiet_on; simp only [Act.put, List.setIfInBounds_toArray, List.set_cons_succ, List.set_cons_zero]) | (go_big_quiet_op; first | go_big_quiet_on | (refine ⟨_, (fun _ _ => rfl), ?_⟩; go_big_quiet_on))))
          refine wpQuiet_nil ?_
          refine seg_goX rfl (fun K hK => ?_)
          have hGu := (Grow.refl u).drew
          have hO2 := hO1.grow hGu
          have hfr := hO2.free s1
          have hc2 := hGu.cell hcx
          have hltu := hO2.lt (g := pb) rfl
          have hO9 : Own (u.drew.setCell ⟨pb, s1, none⟩ (.int .i64 ((cv * X) % p))) 3 1 (some ⟨pb, 0, none⟩) rn rc (ints (updR (elV1 y C t X p) (t * C) (c + 1) y)) := by
           have := hO2.set s1 (.int .i64 ((cv * X) % p))
           rw [← ints_set, ← Hset.out] at this
           exact this
          have hK9 : Keep (fun g => blk (some (⟨pb, 0, none⟩ : Addr)) ≠ some g) wq (u.drew.setCell ⟨pb, s1, none⟩ (.int .i64 ((cv * X) % p))) := (hKp.trans hGu.any).setCell (p := ⟨pb, s1, none⟩) (fun _ e => e rfl) _
          simp only at hfr
          clear hO1 hO2
          go_wp2_with fail
          refine hK _ _ ((fun h => (h rfl).elim)) ?_
          clear hK K
          refine wpSegsX_nil ?_
          go_wp2
          go_roundw
          case rel => exact ⟨hK9, c + 1, by omega, by go_num, hO9⟩
          case measure => simp [intOf]; omega
         ·have hcE : c = C := by omega
          rw [hcE, ← HM2.out] at hO
          have hy2 : ResL p (elM2 y C t j p) := elM2_res hp.1 hx1
          have Hy2l := Lib.hid (show (elM2 y C t j p).length = R * C by rw [elM2_len]; exact Hx1l.out)
          clear HM2 hx1 HX Hx1l hXr hpv hpos
          generalize elM2 y C t j p = y2 at *
          go_wp2
          go_loopw [18] (fun q u => Keep (fun g => blk (some (⟨pb, 0, none⟩ : Addr)) ≠ some g) wq u ∧ ∃ i : Nat, i ≤ R ∧ q = .int .i64 i ∧ Own u 3 1 (some ⟨pb, 0, none⟩) rn rc (ints (elR p C j t i y2))) (fun q _ => R - (intOf q).toNat)
          case atStart => exact ⟨hKp, 0, Nat.zero_le _, rfl, hO⟩
          case round =>
           clear hO hKp o0 o1 o2 bOu hcC hcE hKu
           obtain ⟨u0, rfl⟩ : ∃ u0, u0 = wr := ⟨_, rfl⟩
           obtain ⟨hKp, i, hi, rfl, hO⟩ := hrel
           have hKu := hK1.trans (hKp.mono fun g _ hg => hg.1)
           have bOu := bO5.keep hKu ⟨fun e => by have := hlt4 _ e; omega, Nat.le_refl _⟩
           obtain ⟨⟨o0, o1, o2⟩, -⟩ := bOu.three
           have hzr : ResL p (elR p C j t i y2) := elR_res hp.1 hy2 i
           have Hzl := Lib.hid (show (elR p C j t i y2).length = R * C by rw [elR_len]; exact Hy2l.out)
           by_cases hiR : i < R
           ·have Hself := Lib.hid (fun h => elR_self (p := p) (C := C) (j := j) (t := t) (n := i) (m := y2) h)
            have Hnull := Lib.hid (fun h h0 => elR_null (p := p) (C := C) (j := j) (t := t) (n := i) (m := y2) hp.1 hy2 Hy2l.out hiR h h0)
            have Hupd := Lib.hid (fun h => elR_upd (p := p) (C := C) (j := j) (t := t) (n := i) (m := y2) h)
            generalize elR p C j t i y2 = z at *
            have hni : i * C + j < rn := by rw [← Hn.out]; exact place_lt hjC hiR
            have hcx : u0.cell? ⟨pb, i * C + j, none⟩ = some (.int .i64 (cell z C i j)) := by
             have h := hO.cell (ints_get (xs := z) (j := i * C + j) (by rw [Hzl.out]; exact place_lt hjC hiR) rfl)
             simp only at h
             exact h
            have hfr := res_cell hp.1 hzr C i j
            have hpb := hO.lt (g := pb) rfl
            have hle := hO.le
            have Hf := Lib.hid (show ∀ c, elV2 z C i j t p c = (cell z C i c - cell z C i j * cell z C t c) % p from fun _ => rfl)
            have u1 := mul_wrap (i := i) (c := C) (by omega) (by omega)
            have u2 := idx_wrap (i := i) (c := C) (j := j) (by omega) (by omega) (by omega) rfl
            generalize cell z C i j = f at *
            generalize hs1 : i * C + j = s1 at *
            clear hs1
            go_wp2
            clear hcx hni u1 u2
            by_cases hgo : i = t ∨ f = 0
            ·have Hz1 := Lib.hid (show elR p C j t (i + 1) y2 = z by
              rcases Classical.em (i = t) with h | h
              ·exact Hself.out h
              ·exact Hnull.out h (hgo.resolve_left h))
             have hcr := Lib.hid hgo
             clear hgo
             go_loopw [20] (fun q u => u0 = u ∧ q = .int .i64 0) (fun _ _ => 0)
             case atStart => exact ⟨rfl, rfl⟩
             case round =>
              obtain ⟨rfl, rfl⟩ := hrel
              have h0C : (0 : Int) < (C : Int) := by omega
              by_cases hit : i = t
              ·have q1 : ((i : Int) != (t : Int)) = false := by simp [hit]
               go_wp2
               go_roundw
               case rel => exact ⟨hKp, i + 1, by omega, by go_num, by rw [Hz1.out]; exact hO⟩
               case measure => simp [intOf]; omega
              ·have q1 : ((i : Int) != (t : Int)) = true := by simp; omega
               have hf0 : f = 0 := hcr.out.resolve_left hit
               have q2 : (f != 0) = false := by simp [hf0]
               go_wp2
               go_roundw
               case rel => exact ⟨hKp, i + 1, by omega, by go_num, by rw [Hz1.out]; exact hO⟩
               case measure => simp [intOf]; omega
            ·have hit : i ≠ t := fun e => hgo (.inl e)
             have hf0 : f ≠ 0 := fun e => hgo (.inr e)
             have Hz1 := Lib.hid (Hupd.out hit)
             have q1 : ((i : Int) != (t : Int)) = true := by simp; omega
             have q2 : (f != 0) = true := by simp [hf0]
             clear hgo
             go_loopw [20] (fun q u => Keep (fun g => blk (some (⟨pb, 0, none⟩ : Addr)) ≠ some g) wq u ∧ ∃ c : Nat, c ≤ C ∧ q = .int .i64 c ∧ Own u 3 1 (some ⟨pb, 0, none⟩) rn rc (ints (updR (elV2 z C i j t p) (i * C) c z))) (fun q _ => C - (intOf q).toNat)
             case atStart => exact ⟨hKp, 0, Nat.zero_le _, rfl, hO⟩
             case round =>
              clear hKp hO o0 o1 o2 bOu hKu
              obtain ⟨u, rfl⟩ : ∃ u, u = wr := ⟨_, rfl⟩
              obtain ⟨hKp, c, hc, rfl, hO⟩ := hrel
              have hKu := hK1.trans (hKp.mono fun g _ hg => hg.1)
              have bOu := bO5.keep hKu ⟨fun e => by have := hlt4 _ e; omega, Nat.le_refl _⟩
              obtain ⟨⟨o0, o1, o2⟩, -⟩ := bOu.three
              by_cases hcC : c < C
              ·have hyl : (updR (elV2 z C i j t p) (i * C) c z).length = R * C := by rw [updR_len]; exact Hzl.out
               have hcell : cell (updR (elV2 z C i j t p) (i * C) c z) C i c = cell z C i c := cell_part Hzl.out hiR hc hcC (.inr (Nat.le_refl _))
               have hcell2 : cell (updR (elV2 z C i j t p) (i * C) c z) C t c = cell z C t c := cell_part Hzl.out hiR hc hcC (.inl (fun e => hit e.symm))
               have hni : i * C + c < rn := by rw [← Hn.out]; exact place_lt hcC hiR
               have hni2 : t * C + c < rn := by rw [← Hn.out]; exact place_lt hcC htR
               have hcx : u.cell? ⟨pb, i * C + c, none⟩ = some (.int .i64 (cell z C i c)) := by
                have h := hO.cell (ints_get (j := i * C + c) (by rw [hyl]; exact place_lt hcC hiR) (show (updR (elV2 z C i j t p) (i * C) c z).getD (i * C + c) 0 = cell z C i c from hcell))
                simp only at h
                exact h
               have hcx2 : u.cell? ⟨pb, t * C + c, none⟩ = some (.int .i64 (cell z C t c)) := by
                have h := hO.cell (ints_get (j := t * C + c) (by rw [hyl]; exact place_lt hcC htR) (show (updR (elV2 z C i j t p) (i * C) c z).getD (t * C + c) 0 = cell z C t c from hcell2))
                simp only at h
                exact h
               have hpb := hO.lt (g := pb) rfl
               have hle := hO.le
               have hv := res_cell hp.1 hzr C i c
               have hv2 := res_cell hp.1 hzr C t c
               have hmul := res_mul hp.2 (show 0 ≤ f ∧ f ≤ 10000 by omega) hv2
               have Hset := Lib.hid (show updR (elV2 z C i j t p) (i * C) (c + 1) z = (updR (elV2 z C i j t p) (i * C) c z).set (i * C + c) ((cell z C i c - f * cell z C t c) % p) by rw [← Hf.out]; rfl)
               have u1 := mul_wrap (i := i) (c := C) (by omega) (by omega)
               have u2 := idx_wrap (i := i) (c := C) (j := c) (by omega) (by omega) (by omega) rfl
               have u3 := mul_wrap (i := t) (c := C) (by omega) (by omega)
               have u4 := idx_wrap (i := t) (c := C) (j := c) (by omega) (by omega) (by omega) rfl
               have hO1 := hO
               clear hcell hcell2 hyl hO
               generalize cell z C i c = cv at *
               generalize cell z C t c = cw at *
               generalize updR (elV2 z C i j t p) (i * C) c z = zz at *
               generalize i * C + c = s1 at *
               generalize t * C + c = s2 at *
               go_wp2
               refine wp_region_segsX (S := (Grow u)) (last := 34) [([0, 1, 2, 3, 4, 5, 6, 7, 8, 9, 10, 11, 12, 13, 14, 15, 16, 17, 18, 19, 20, 21, 22, 23, 24, 25, 26, 27, 28, 29, 30, 31], some 32), ([33], some 34)] P_mixed (by kernel_rfl) (fun _ _ _ _ _ h => h) (Grow.refl _).drew ?_
               show wpQuiet _ _ _ _ [_, _, _, _, _, _, _, _, _, _, _, _, _, _, _, _, _, _, _, _, _, _, _, _, _, _, _, _, _, _, _, _] _
               repeat (first | go_big_quiet_skip | (go_big_quiet_want; first | (apply quiet_load CT_ints; rfl; rfl; exact (fun w' hG => hG.cell o2); go_big_quiet_on; simp only [Act.put, List.setIfInBounds_toArray, List.set_cons_succ, List.set_cons_zero]) | (apply quiet_load CT_int; rfl; rfl; exact (fun w' hG => hG.cell o1); go_big_quiet_on; simp only [Act.put, List.setIfInBounds_toArray, List.set_cons_succ, List.set_cons_zero]) | (apply quiet_load CT_int; rfl; rfl; exact (fun w' hG => hG.cell hcx); go_big_quiet_on; simp only [Act.put, List.setIfInBounds_toArray, List.set_cons_succ, List.set_cons_zero]) | (apply quiet_load CT_int; rfl; rfl; exact (fun w' hG => hG.cell hcx2); go_big_quiet_on; simp only [Act.put, List.setIfInBounds_toArray, List.set_cons_succ, List.set_cons_zero]) | (go_big_quiet_op; first | go_big_quiet_on | (refine ⟨_, (fun _ _ => rfl), ?_⟩; go_big_quiet_on))))
               refine wpQuiet_nil ?_
               refine seg_goX rfl (fun K hK => ?_)
               go_wp2_with fail
               refine (sMod_c (cv - f * cw) p _ (by unfold I64; omega) hp).mono ?_
               rintro e _ ⟨rfl, rfl⟩
               have hGu := (Grow.refl u).drew
               go_wp2_with fail
               refine hK _ _ ((fun _ => hGu)) ?_
               clear hK K
               show wpQuiet _ _ _ _ [_] _
               try (conv => arg 6; simp only [Act.put, List.setIfInBounds_toArray, List.set_cons_succ, List.set_cons_zero])
               repeat (first | go_big_quiet_skip | (go_big_quiet_want; first | (apply quiet_load CT_ints; rfl; rfl; exact (fun w' hG => hG.cell o2); go_big_quiet_on; simp only [Act.put, List.setIfInBounds_toArray, List.set_cons_succ, List.set_cons_zero]) | (apply quiet_load CT_int; rfl; rfl; exact (fun w' hG => hG.cell o1); go_big_quiet_on; simp only [Act.put, List.setIfInBounds_toArray, List.set_cons_succ, List.set_cons_zero]) | (apply quiet_load CT_int; rfl; rfl; exact (fun w' hG => hG.cell hcx); go_big_quiet_on; simp only [Act.put, List.setIfInBounds_toArray, List.set_cons_succ, List.set_cons_zero]) | (apply quiet_load CT_int; rfl; rfl; exact (fun w' hG => hG.cell hcx2); go_big_quiet_on; simp only [Act.put, List.setIfInBounds_toArray, List.set_cons_succ, List.set_cons_zero]) | (go_big_quiet_op; first | go_big_quiet_on | (refine ⟨_, (fun _ _ => rfl), ?_⟩; go_big_quiet_on))))
               refine wpQuiet_nil ?_
               refine seg_goX rfl (fun K hK => ?_)
               have hO2 := hO1.grow hGu
               have hfz := hO2.free s1
               have hc2 := hGu.cell hcx
               have hltu := hO2.lt (g := pb) rfl
               have hO9 : Own (u.drew.setCell ⟨pb, s1, none⟩ (.int .i64 ((cv - f * cw) % p))) 3 1 (some ⟨pb, 0, none⟩) rn rc (ints (updR (elV2 z C i j t p) (i * C) (c + 1) z)) := by
                have := hO2.set s1 (.int .i64 ((cv - f * cw) % p))
                rw [← ints_set, ← Hset.out] at this
                exact this
               have hK9 : Keep (fun g => blk (some (⟨pb, 0, none⟩ : Addr)) ≠ some g) wq (u.drew.setCell ⟨pb, s1, none⟩ (.int .i64 ((cv - f * cw) % p))) := (hKp.trans hGu.any).setCell (p := ⟨pb, s1, none⟩) (fun _ e => e rfl) _
               simp only at hfz
               clear hO1 hO2
               go_wp2_with fail
               refine hK _ _ ((fun h => (h rfl).elim)) ?_
               clear hK K
               refine wpSegsX_nil ?_
               go_wp2
               go_roundw
               case rel => exact ⟨hK9, c + 1, by omega, by go_num, hO9⟩
               case measure => simp [intOf]; omega
              ·have hcE : c = C := by omega
               rw [hcE, ← Hz1.out] at hO
               go_wp2
               go_roundw
               case rel => exact ⟨hKp, i + 1, by omega, by go_num, hO⟩
               case measure => simp [intOf]; omega
           ·have hiE : i = R := by omega
            rw [hiE] at hO hzr Hzl
            have hPu := hP1.keep hKp (fun g hg _ e => by have h1 := hPlo g hg; have h2 := hlt4 pb rfl; have e2 : pb = g := (by simpa using e); omega)
            have hGa := (Grow.refl u0).alloc #[.int .i64 (j : Int)] 3
            have hPa := hPu.grow hGa
            have hOa := hO.grow hGa
            have hOlt := hOa.lt (g := pb) rfl
            have hs5k : w4.heap.size < u0.heap.size := by have := bOu.lt; omega
            clear hPu hO
            go_wp2_with (at_builtin; refine wpList_app rfl (.tmp 197) (.tmp 199) _ rfl T_ints rfl hPa rfl (Row.bAt6 (S := fun _ => True) 1 rfl (by unfold maxLen; omega) rfl (fun _ => trivial)) (by simp [Value.oneCell']) (by omega) (by unfold maxLen; omega) ?_; intro a9 c9 w9 hA9)
            have hP9 : Own w9 3 1 a9 (t + 1) c9 (ints (L ++ [(j : Int)])) := by have := hA9.own; simpa [ints] using this
            have hO9 := hOa.keep hA9.keep (fun g hg _ e => by have := hPlo g e; have := hlt4 g hg; omega)
            have hK9 : Keep (fun g => blk (some (⟨pb, 0, none⟩ : Addr)) ≠ some g ∧ g ≤ w4.heap.size) w5 w9 := (hKu.trans hGa.any).trans (hA9.keep.mono fun g _ hg e => by have := hPlo g e; have := hg.2; omega)
            have hPlo9 : ∀ g, blk a9 = some g → w4.heap.size < g := fun g hg => by
             rcases hA9.new with e | ⟨q, e, hq⟩
             ·exact hPlo g (e ▸ hg)
             ·rw [e] at hg; obtain rfl := Option.some.inj hg; simp at hq; omega
            clear hA9 hPa hOa
            go_wp2
            go_roundw
            case rel => exact ⟨hK9, t + 1, j + 1, c9, d2, _, L ++ [(j : Int)], a9, by omega, by omega, by go_num, rfl, by go_num, by omega, hP9, hPlo9, hO9, Hzl.out, hzr, HS2.out⟩
            case measure => simp [intOf]; omega
     ·have hkE : k = R := by omega
      have hKR : K = R := by rw [← Hek.out, hkE, Nat.sub_self]; rfl
      have HS := Lib.hid (Hsk.out hKR)
      have e1 : ((k : Int) == (R : Int)) = true := by simp [hkE]
      go_wp2
      go_roundw
      case rel => exact ⟨hK, t, j + 1, pc, d, x, L, pa, by omega, by omega, rfl, rfl, by go_num, hd, hP, hPlo, hO, Hxl.out, hx, HS.out⟩
      case measure => simp [intOf]; omega
   ·have HE := Lib.hid (show (t : Nat) = res by rw [← Hre.out, elN_full htR])
    have bZr := bZ5.keep hK ⟨fun e => by have := hlo _ e; omega, by omega⟩
    have hGr : Grow w wo := Grow.keep (S := fun g => blk ra ≠ some g ∧ g ≤ w4.heap.size) hG15 hK (fun g hg => ⟨fun e => by have := hlo _ e; omega, by omega⟩)
    obtain ⟨⟨z0, z1, z2⟩, g0, g1, g2⟩ := bZr.three
    have hltZ := bZr.lt
    have hKs : Keep (fun q => q ≠ w.heap.size + 1) wo (((wo.setCell ⟨w.heap.size + 1, 0, none⟩ (.int .i64 (R : Int))).setCell ⟨w.heap.size + 1, 1, none⟩ (.int .i64 (C : Int))).setCell ⟨w.heap.size + 1, 2, none⟩ (.slice ra rn rc)) :=
     (((Keep.refl _ wo).setCell (fun _ e => e rfl) _).setCell (fun _ e => e rfl) _).setCell (fun _ e => e rfl) _
    have hGf := hGr.keep hKs (fun q hq => by omega)
    go_wp2
    exact ret_cell_tmp2 T_mat rfl rfl rfl (((bZr.set 0 _).set 1 _).set 2 _) ⟨_, _, _, _, _, pa, pc, d, by rw [← HE.out]; rfl, hGf⟩
  ·have HE := Lib.hid (show (t : Nat) = res by rw [← Hre.out, show C - j = 0 by omega]; rfl)
   have bZr := bZ5.keep hK ⟨fun e => by have := hlo _ e; omega, by omega⟩
   have hGr : Grow w wo := Grow.keep (S := fun g => blk ra ≠ some g ∧ g ≤ w4.heap.size) hG15 hK (fun g hg => ⟨fun e => by have := hlo _ e; omega, by omega⟩)
   obtain ⟨⟨z0, z1, z2⟩, g0, g1, g2⟩ := bZr.three
   have hltZ := bZr.lt
   have hKs : Keep (fun q => q ≠ w.heap.size + 1) wo (((wo.setCell ⟨w.heap.size + 1, 0, none⟩ (.int .i64 (R : Int))).setCell ⟨w.heap.size + 1, 1, none⟩ (.int .i64 (C : Int))).setCell ⟨w.heap.size + 1, 2, none⟩ (.slice ra rn rc)) :=
    (((Keep.refl _ wo).setCell (fun _ e => e rfl) _).setCell (fun _ e => e rfl) _).setCell (fun _ e => e rfl) _
   have hGf := hGr.keep hKs (fun q hq => by omega)
   go_wp2
   exact ret_cell_tmp2 T_mat rfl rfl rfl (((bZr.set 0 _).set 1 _).set 2 _) ⟨_, _, _, _, _, pa, pc, d, by rw [← HE.out]; rfl, hGf⟩
end Go.Proofs.YtjepiemflpjjhaaGreat
