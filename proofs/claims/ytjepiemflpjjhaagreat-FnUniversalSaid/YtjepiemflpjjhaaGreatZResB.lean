/-
  RankMod and BettiMod: both sides.
-/
import Derived.Test.YtjepiemflpjjhaaGreatZResF
import Derived.Test.YtjepiemflpjjhaaGreatZBoundary
import Derived.Test.YtjepiemflpjjhaaGreatZStack
import Derived.Test.YtjepiemflpjjhaaGreatZBase
set_option maxHeartbeats 8000000
set_option maxRecDepth 100000
namespace Go.Proofs.YtjepiemflpjjhaaGreat
open Go.RowKit
theorem rkN_yes {m : Mat} {p : Int} {R C : Nat} (h : rkOk m p = true) (hr : m.rows = (R : Int)) (hc : m.cols = (C : Int)) : rkN m p = elN p C R C 0 0 (redL p m.cells) := by
 unfold rkN; rw [if_pos h, hr, hc]; rfl
theorem rkN_no {m : Mat} {p : Int} (h : rkOk m p = false) : rkN m p = 0 := by unfold rkN; rw [h]; rfl
theorem elN_le {p : Int} {C R : Nat} : ∀ {n j t : Nat} {x : List Int}, t ≤ R → elN p C R n j t x ≤ R
 | 0, _, t, _, h => h
 | n + 1, j, t, x, h => by
  simp only [elN]
  split
  ·split
   ·exact elN_le h
   ·exact elN_le (by omega)
  ·exact h
theorem rkN_le (m : Mat) (p : Int) : rkN m p ≤ 24 := by
 cases h : rkOk m p with
 | false => rw [rkN_no h]; omega
 | true =>
  have h' := h
  unfold rkOk at h'
  rw [Bool.and_eq_true] at h'
  obtain ⟨R, C, hmr, hmc, hR, hC, hl, hnum⟩ := isMatB_shape h'.2
  rw [rkN_yes h hmr hmc]
  exact Nat.le_trans (elN_le (Nat.zero_le _)) hR
theorem iRankMod_c {S : Nat → Prop} {v : Value} {m : Mat} {p : Int} {w : World} (h : VM w S v m) (hb : bdM m ≤ 1048576) (hp : I64 p) :
  Calls Tryz.prog 32 #[v, .int .i64 p] w fun e w' => e = .returned (.tuple #[.int .i64 ((rkN m p : Nat) : Int), .bool (rkOk m p)]) ∧ Grow w w' := by
 have hVM := h
 obtain ⟨a, n, c, rfl, h, ir, ic⟩ := h
 have hG1 := (Grow.refl w).alloc #[.int .i64 m.rows, .int .i64 m.cols, .slice a n c] 40
 have hno := rkN_no (m := m) (p := p)
 go_enter Tryz.func32, Tryz.ntmps32
 go_wp2_with fail
 refine (iReduce_c (hVM.grow hG1) hb hp).mono ?_
 rintro e w2 ⟨rv, rfl, hR, hG2⟩
 have hrd := fun h => (red_yes (m := m) (p := p) h).2
 have hG12 := hG1.trans hG2
 obtain ⟨RM, hRM⟩ : ∃ RM, RM = redB m p := ⟨_, rfl⟩
 rw [← hRM] at hR hrd
 clear hRM
 obtain ⟨ra, rn, rc, rfl, oR, rR, fR, i1, i2⟩ := hR
 have hGa := (Grow.refl w2).alloc #[.int .i64 RM.rows, .int .i64 RM.cols, .slice ra rn rc] 40
 have bR := Blk.new w2 #[.int .i64 RM.rows, .int .i64 RM.cols, .slice ra rn rc] 40
 have hG13 := hG12.trans hGa
 cases hok : rkOk m p with
 | false =>
  have Hz := Lib.hid (And.intro (hno hok) hok)
  have hGz := hG13
  clear hok hno hrd
  go_wp2
  go_ret2
  exact ⟨by rw [Hz.out.1, Hz.out.2]; rfl, hGz⟩
 | true =>
  have hok' := hok
  unfold rkOk at hok'
  rw [Bool.and_eq_true] at hok'
  obtain ⟨hpr, hmm⟩ := hok'
  obtain ⟨R, C, hmr, hmc, hR24, hC24, hl, hnum⟩ := isMatB_shape hmm
  have hpp := prB_rng hpr
  have HN := Lib.hid (rkN_yes hok hmr hmc)
  have Hok := Lib.hid hok
  have e := hrd hok
  rw [hmr, hmc] at e
  subst e
  have hrl : (redL p m.cells).length = R * C := by rw [redL_len, hl]
  have hrr := redL_res hpp.1 m.cells
  have oR3 := oR.grow hGa
  have hs12 := hG12.size
  simp only at oR3 bR hGa hG13
  obtain ⟨⟨r0, r1, r2⟩, -⟩ := bR.three
  clear hok hno hrd hmr hmc hl hnum hpr hmm oR
  go_wp2_with fail
  refine (iEliminate_c ra rn rc C R p (redL p m.cells) _ oR3 hrl hrr hpp hR24 hC24).mono ?_
  rintro e w5 ⟨d, rfl, hK5⟩
  have hG5 : Grow w w5 := Grow.keep (S := fun g => blk ra ≠ some g) hG13 hK5 (fun g hg e => by have h1 := (fR g e).1; have h2 := hG1.size; omega)
  rw [← HN.out]
  go_wp2
  go_ret2
  exact ⟨by rw [Hok.out]; rfl, hG5⟩
theorem sRankMod_c {S : Nat → Prop} {v : Value} {m : Mat} {p : Int} {w : World} (h : VM w S v m) (hb : bdM m ≤ 1048576) (hp : I64 p) :
  Calls Tryz.prog 35 #[v, .int .i64 p] w fun e w' => e = .returned (.tuple #[.int .i64 ((rkN m p : Nat) : Int), .bool (rkOk m p)]) ∧ Grow w w' := by
 have hVM := h
 obtain ⟨a, n, c, rfl, h, ir, ic⟩ := h
 have hG1 := (Grow.refl w).alloc #[.int .i64 m.rows, .int .i64 m.cols, .slice a n c] 40
 have hno := rkN_no (m := m) (p := p)
 go_enter Tryz.func35, Tryz.ntmps35
 go_wp2_with fail
 refine (sReduce_c (hVM.grow hG1) hb hp).mono ?_
 rintro e w2 ⟨rv, rfl, hR, hG2⟩
 have hrd := fun h => (red_yes (m := m) (p := p) h).2
 have hG12 := hG1.trans hG2
 obtain ⟨RM, hRM⟩ : ∃ RM, RM = redB m p := ⟨_, rfl⟩
 rw [← hRM] at hR hrd
 clear hRM
 obtain ⟨ra, rn, rc, rfl, oR, rR, fR, i1, i2⟩ := hR
 have hGa := (Grow.refl w2).alloc #[.int .i64 RM.rows, .int .i64 RM.cols, .slice ra rn rc] 40
 have bR := Blk.new w2 #[.int .i64 RM.rows, .int .i64 RM.cols, .slice ra rn rc] 40
 have hG13 := hG12.trans hGa
 cases hok : rkOk m p with
 | false =>
  have Hz := Lib.hid (And.intro (hno hok) hok)
  have hGz := hG13
  clear hok hno hrd
  go_wp2
  go_ret2
  exact ⟨by rw [Hz.out.1, Hz.out.2]; rfl, hGz⟩
 | true =>
  have hok' := hok
  unfold rkOk at hok'
  rw [Bool.and_eq_true] at hok'
  obtain ⟨hpr, hmm⟩ := hok'
  obtain ⟨R, C, hmr, hmc, hR24, hC24, hl, hnum⟩ := isMatB_shape hmm
  have hpp := prB_rng hpr
  have HN := Lib.hid (rkN_yes hok hmr hmc)
  have Hok := Lib.hid hok
  have e := hrd hok
  rw [hmr, hmc] at e
  subst e
  have hrl : (redL p m.cells).length = R * C := by rw [redL_len, hl]
  have hrr := redL_res hpp.1 m.cells
  have rd3 := (oR.rdI (S := fun _ => True) (fun _ _ => trivial) rR).grow hGa
  simp only at rd3 bR hGa hG13
  obtain ⟨⟨r0, r1, r2⟩, -⟩ := bR.three
  have Hpr := Lib.hid hpr
  clear hok hno hrd hmr hmc hl hnum hpr hmm oR
  go_wp2_with fail
  refine (sEliminate_c ra rn rc C R p (redL p m.cells) _ rd3 hrl hrr Hpr.out hR24 hC24).mono ?_
  rintro e w5 ⟨x, y, sa, sn, sc, pa, pc, d, rfl, hG5⟩
  rw [← HN.out]
  go_wp2
  go_ret2
  exact ⟨by rw [Hok.out]; rfl, (hG13.trans hG5).alloc _ _⟩
end Go.Proofs.YtjepiemflpjjhaaGreat

namespace Go.Proofs.YtjepiemflpjjhaaGreat
open Go.RowKit
noncomputable def betOk (l : List (List Int)) (k p : Int) : Bool := inB k 0 3 && (boundOk l k && (boundOk l (wrap64 (k + 1)) && (rkOk (boundB l k) p && rkOk (boundB l (wrap64 (k + 1))) p)))
noncomputable def betN (l : List (List Int)) (k p : Int) : Int := if betOk l k p = true then (boundB l k).rows - (rkN (boundB l k) p : Nat) - (rkN (boundB l (wrap64 (k + 1))) p : Nat) else 0
theorem bet_no {l : List (List Int)} {k p : Int} (h : betOk l k p = false) : betOk l k p = false ∧ betN l k p = 0 := by unfold betN; rw [h]; exact ⟨rfl, rfl⟩
theorem bet_yes {l : List (List Int)} {k p : Int} (h : betOk l k p = true) : betOk l k p = true ∧ betN l k p = (boundB l k).rows - (rkN (boundB l k) p : Nat) - (rkN (boundB l (wrap64 (k + 1))) p : Nat) := by unfold betN; rw [if_pos h]; exact ⟨h, rfl⟩
theorem wrap_b (n : Int) : I64 (wrap64 n) := by unfold wrap64 I64; omega
theorem bound_rows {l : List (List Int)} {k : Int} (h : boundOk l k = true) : 0 ≤ (boundB l k).rows ∧ (boundB l k).rows ≤ 24 := by
 have hC : IsCplx l := isCplxB_iff.1 (by unfold boundOk at h; simp at h; exact h.1)
 unfold boundB
 rw [if_pos h]
 have := cplx_few hC k
 show 0 ≤ ((facesB l k).length : Int) ∧ ((facesB l k).length : Int) ≤ 24
 omega
theorem rank_fn (v : Value) (g : Nat) (m : Mat) (p : Int) (w : World) {S : Nat → Prop} (h : VM w S v m) (hb : bdM m ≤ 1048576) (hp : I64 p) (bP : Blk w g #[.int .i64 p] 3) :
  Calls Tryz.prog 31 #[v, .pointer (some ⟨g, 0, none⟩)] w fun e w' => e = .returned (.tuple #[.int .i64 ((rkN m p : Nat) : Int), .bool (rkOk m p)]) ∧ Grow w w' := by
 have hVM := h
 obtain ⟨a, n, c, rfl, h, ir, ic⟩ := h
 have hG1 := (Grow.refl w).alloc #[.int .i64 m.rows, .int .i64 m.cols, .slice a n c] 40
 have bP1 := bP.grow hG1
 have hlt := bP.lt
 have c0 := bP1.cell 0
 simp only [List.getElem?_toArray, List.getElem?_cons_zero] at c0
 go_enter Tryz.func31, Tryz.ntmps31
 go_wp2_with fail
 refine (iRankMod_c (hVM.grow hG1) hb hp).mono ?_
 rintro e w2 ⟨rfl, hG2⟩
 go_wp2
 go_ret2
 exact ⟨rfl, hG1.trans hG2⟩
theorem bettiBy_c {S : Nat → Prop} {v : Value} {l : List (List Int)} {k p : Int} {g : Nat} {w : World} (h : VII w S v l) (hb : bdII l ≤ 1048576) (hk : I64 k) (hp : I64 p) (bP : Blk w g #[.int .i64 p] 3) :
  Calls Tryz.prog 24 #[v, .int .i64 k, .func (.func 31) #[] #[.pointer (some ⟨g, 0, none⟩)]] w fun e w' => e = .returned (.tuple #[.int .i64 (betN l k p), .bool (betOk l k p)]) ∧ Grow w w' := by
 have hdf := Lib.hid (show betOk l k p = (inB k 0 3 && (boundOk l k && (boundOk l (wrap64 (k + 1)) && (rkOk (boundB l k) p && rkOk (boundB l (wrap64 (k + 1))) p)))) from rfl)
 have hno := bet_no (l := l) (k := k) (p := p)
 have hyes := bet_yes (l := l) (k := k) (p := p)
 have hrows := fun h => bound_rows (l := l) (k := k) h
 have hbA := boundB_bd l k
 have hbB := boundB_bd l (wrap64 (k + 1))
 generalize betOk l k p = bo at *
 generalize betN l k p = bn at *
 by_cases hk0 : 0 ≤ k ∧ k ≤ 3
 ·have hin : inB k 0 3 = true := by unfold inB; simp; omega
  have hkw := wrap_b (k + 1)
  have hwe : wrap64 (k + 1) = k + 1 := by unfold wrap64; omega
  obtain ⟨kk, hkk⟩ : ∃ kk, kk = wrap64 (k + 1) := ⟨_, rfl⟩
  rw [← hkk] at hkw hdf hbB hyes
  have hke : kk = k + 1 := by rw [hkk, hwe]
  obtain ⟨k0, k3⟩ := hk0
  clear hwe hkk
  go_enter Tryz.func24, Tryz.ntmps24
  go_wp2_with fail
  refine (implBoundaryOf_v h hb hk).mono ?_
  rintro e w2 ⟨ra, rfl, hA, hGA⟩
  generalize boundB l k = AM at *
  obtain ⟨Aa, An, Ac, rfl, oA, rA, fA, iA1, iA2⟩ := hA
  have hGaA := (Grow.refl w2).alloc #[.int .i64 AM.rows, .int .i64 AM.cols, .slice Aa An Ac] 40
  have bA := Blk.new w2 #[.int .i64 AM.rows, .int .i64 AM.cols, .slice Aa An Ac] 40
  have vA : VM _ (fun _ => True) _ AM := ⟨Aa, An, Ac, rfl, (oA.rdI (fun _ _ => trivial) rA).grow hGaA, iA1, iA2⟩
  clear oA
  replace bP := (bP.grow hGA).grow hGaA
  have hG2 := hGA.trans hGaA
  obtain ⟨b1, hb1⟩ : ∃ b1, b1 = boundOk l k := ⟨_, rfl⟩
  rw [← hb1] at hdf hrows ⊢
  clear hb1
  go_wp2_with fail
  rw [← hke]
  clear hke
  refine (implBoundaryOf_v (h.grow hG2) hb hkw).mono ?_
  rintro e w3 ⟨rb, rfl, hB, hGB⟩
  generalize boundB l kk = BM at *
  obtain ⟨Ba, Bn, Bc, rfl, oB, rB, fB, iB1, iB2⟩ := hB
  have hGaB := (Grow.refl w3).alloc #[.int .i64 BM.rows, .int .i64 BM.cols, .slice Ba Bn Bc] 40
  have bB := Blk.new w3 #[.int .i64 BM.rows, .int .i64 BM.cols, .slice Ba Bn Bc] 40
  have vB : VM _ (fun _ => True) _ BM := ⟨Ba, Bn, Bc, rfl, (oB.rdI (fun _ _ => trivial) rB).grow hGaB, iB1, iB2⟩
  clear oB
  replace bA := bA.grow hGB
  have hlAB := bA.lt
  replace bA := bA.grow hGaB
  replace vA := (vA.grow hGB).grow hGaB
  replace bP := (bP.grow hGB).grow hGaB
  have hG3 := (hG2.trans hGB).trans hGaB
  obtain ⟨b2, hb2⟩ : ∃ b2, b2 = boundOk l kk := ⟨_, rfl⟩
  rw [← hb2] at hdf ⊢
  clear hb2
  cases b1 with
  | false =>
   have Hz := Lib.hid (hno (by rw [hdf.out, hin]; rfl))
   have hGz := hG3
   clear hdf hno hyes hrows
   go_wp2
   go_ret2
   exact ⟨by rw [Hz.out.1, Hz.out.2]; rfl, hGz⟩
  | true =>
   cases b2 with
   | false =>
    have Hz := Lib.hid (hno (by rw [hdf.out, hin]; rfl))
    have hGz := hG3
    clear hdf hno hyes hrows
    go_wp2
    go_ret2
    exact ⟨by rw [Hz.out.1, Hz.out.2]; rfl, hGz⟩
   | true =>
    obtain ⟨hr0, hr24⟩ := hrows rfl
    obtain ⟨⟨a0, a1, a2⟩, -⟩ := bA.three
    go_wp2_with fail
    refine (rank_fn _ g AM p _ vA (by omega) hp bP).mono ?_
    rintro e w4 ⟨rfl, hG4⟩
    have bA4 := bA.grow hG4
    have bB4 := bB.grow hG4
    have bP4 := bP.grow hG4
    have vB4 := vB.grow hG4
    clear a0 a1 a2
    obtain ⟨⟨q0, q1, q2⟩, -⟩ := bB4.three
    obtain ⟨b3, hb3⟩ : ∃ b3, b3 = rkOk AM p := ⟨_, rfl⟩
    rw [← hb3] at hdf ⊢
    clear hb3
    go_wp2_with fail
    refine (rank_fn _ g BM p _ vB4 (by omega) hp bP4).mono ?_
    rintro e w5 ⟨rfl, hG5⟩
    have bA5 := bA4.grow hG5
    obtain ⟨b4, hb4⟩ : ∃ b4, b4 = rkOk BM p := ⟨_, rfl⟩
    rw [← hb4] at hdf ⊢
    clear hb4 q0 q1 q2
    obtain ⟨⟨a0, a1, a2⟩, -⟩ := bA5.three
    have hG35 := (hG3.trans hG4).trans hG5
    have hn1 := rkN_le AM p
    have hn2 := rkN_le BM p
    cases b3 with
    | false =>
     have Hz := Lib.hid (hno (by rw [hdf.out, hin]; rfl))
     have hGz := hG35
     clear hdf hno hyes hrows
     go_wp2
     go_ret2
     exact ⟨by rw [Hz.out.1, Hz.out.2]; rfl, hGz⟩
    | true =>
     cases b4 with
     | false =>
      have Hz := Lib.hid (hno (by rw [hdf.out, hin]; rfl))
      have hGz := hG35
      clear hdf hno hyes hrows
      go_wp2
      go_ret2
      exact ⟨by rw [Hz.out.1, Hz.out.2]; rfl, hGz⟩
     | true =>
      have Hy := Lib.hid (hyes (by rw [hdf.out, hin]; rfl))
      clear hdf hno hyes hrows
      generalize rkN AM p = n1 at *
      generalize rkN BM p = n2 at *
      go_wp2
      go_ret2
      exact ⟨by rw [Hy.out.1, Hy.out.2]; rfl, hG35⟩
 ·have Hz := Lib.hid (hno (by rw [hdf.out, show inB k 0 3 = false by unfold inB; simp; omega]; rfl))
  have hGz := Grow.refl w
  clear hdf hno hyes hrows
  by_cases h0 : k < 0
  ·go_enter Tryz.func24, Tryz.ntmps24
   go_wp2
   go_ret2
   exact ⟨by rw [Hz.out.1, Hz.out.2]; rfl, hGz⟩
  ·have h3 : 3 < k := by omega
   go_enter Tryz.func24, Tryz.ntmps24
   go_wp2
   go_ret2
   exact ⟨by rw [Hz.out.1, Hz.out.2]; rfl, hGz⟩
theorem implBettiMod_v {S : Nat → Prop} {v : Value} {l : List (List Int)} {k p : Int} {w : World} (h : VII w S v l) (hb : bdII l ≤ 1048576) (hk : I64 k) (hp : I64 p) :
  Calls Tryz.prog 14 #[v, .int .i64 k, .int .i64 p] w fun e w' => e = .returned (.tuple #[.int .i64 (betN l k p), .bool (betOk l k p)]) ∧ Grow w w' := by
 have hmf : ∀ (fn : Fn) (first cap : Array Value) (w : World), (Instr.makeFunc fn first cap).run Tryz.prog w = .ok (.func fn first cap) w := fun _ _ _ _ => rfl
 have hG1 := (Grow.refl w).alloc #[.int .i64 p] 3
 have bP := Blk.new w #[.int .i64 p] 3
 go_enter Tryz.func14, Tryz.ntmps14
 go_wp2_with fail
 refine (bettiBy_c (h.grow hG1) hb hk hp bP).mono ?_
 rintro e w2 ⟨rfl, hG2⟩
 go_wp2
 go_ret2
 exact ⟨rfl, hG1.trans hG2⟩
theorem specBettiMod_v {S : Nat → Prop} {v : Value} {l : List (List Int)} {k p : Int} {w : World} (h : VII w S v l) (hb : bdII l ≤ 1048576) (hk : I64 k) (hp : I64 p) :
  Calls Tryz.prog 15 #[v, .int .i64 k, .int .i64 p] w fun e w' => e = .returned (.tuple #[.int .i64 (betN l k p), .bool (betOk l k p)]) ∧ Grow w w' := by
 have hdf := Lib.hid (show betOk l k p = (inB k 0 3 && (boundOk l k && (boundOk l (wrap64 (k + 1)) && (rkOk (boundB l k) p && rkOk (boundB l (wrap64 (k + 1))) p)))) from rfl)
 have hno := bet_no (l := l) (k := k) (p := p)
 have hyes := bet_yes (l := l) (k := k) (p := p)
 have hrows := fun h => bound_rows (l := l) (k := k) h
 have hbA := boundB_bd l k
 have hbB := boundB_bd l (wrap64 (k + 1))
 generalize betOk l k p = bo at *
 generalize betN l k p = bn at *
 have hkw := wrap_b (k + 1)
 obtain ⟨kk, hkk⟩ : ∃ kk, kk = wrap64 (k + 1) := ⟨_, rfl⟩
 rw [← hkk] at hkw hdf hbB hyes
 have Hkk := Lib.hid hkk
 clear hkk
 go_enter Tryz.func15, Tryz.ntmps15
 go_wp2_with fail
 refine (specBoundaryOf_v h hb hk).mono ?_
 rintro e w2 ⟨ra, rfl, hA, hGA⟩
 generalize boundB l k = AM at *
 obtain ⟨Aa, An, Ac, rfl, oA, rA, fA, iA1, iA2⟩ := hA
 have hGaA := (Grow.refl w2).alloc #[.int .i64 AM.rows, .int .i64 AM.cols, .slice Aa An Ac] 40
 have bA := Blk.new w2 #[.int .i64 AM.rows, .int .i64 AM.cols, .slice Aa An Ac] 40
 have vA : VM _ (fun _ => True) _ AM := ⟨Aa, An, Ac, rfl, (oA.rdI (fun _ _ => trivial) rA).grow hGaA, iA1, iA2⟩
 clear oA
 have hG2 := hGA.trans hGaA
 obtain ⟨b1, hb1⟩ : ∃ b1, b1 = boundOk l k := ⟨_, rfl⟩
 rw [← hb1] at hdf hrows ⊢
 clear hb1
 go_wp2_with fail
 rw [← Hkk.out]
 refine (specBoundaryOf_v (h.grow hG2) hb hkw).mono ?_
 rintro e w3 ⟨rb, rfl, hB, hGB⟩
 generalize boundB l kk = BM at *
 obtain ⟨Ba, Bn, Bc, rfl, oB, rB, fB, iB1, iB2⟩ := hB
 have hGaB := (Grow.refl w3).alloc #[.int .i64 BM.rows, .int .i64 BM.cols, .slice Ba Bn Bc] 40
 have bB := Blk.new w3 #[.int .i64 BM.rows, .int .i64 BM.cols, .slice Ba Bn Bc] 40
 have vB : VM _ (fun _ => True) _ BM := ⟨Ba, Bn, Bc, rfl, (oB.rdI (fun _ _ => trivial) rB).grow hGaB, iB1, iB2⟩
 clear oB
 replace bA := bA.grow hGB
 have hlAB := bA.lt
 replace bA := bA.grow hGaB
 replace vA := (vA.grow hGB).grow hGaB
 have hG3 := (hG2.trans hGB).trans hGaB
 obtain ⟨b2, hb2⟩ : ∃ b2, b2 = boundOk l kk := ⟨_, rfl⟩
 rw [← hb2] at hdf ⊢
 clear hb2
 cases b1 with
 | false =>
  have Hz := Lib.hid (hno (by rw [hdf.out]; simp))
  have hGz := hG3
  clear hdf hno hyes hrows
  go_wp2
  go_ret2
  exact ⟨by rw [Hz.out.1, Hz.out.2]; rfl, hGz⟩
 | true =>
  cases b2 with
  | false =>
   have Hz := Lib.hid (hno (by rw [hdf.out]; simp))
   have hGz := hG3
   clear hdf hno hyes hrows
   go_wp2
   go_ret2
   exact ⟨by rw [Hz.out.1, Hz.out.2]; rfl, hGz⟩
  | true =>
   cases hin : inB k 0 3 with
   | false =>
    have Hz := Lib.hid (hno (by rw [hdf.out, hin]; rfl))
    have hGz := hG3
    clear hdf hno hyes hrows
    go_wp2_with fail
    refine (l1In_q hin _).mono ?_
    rintro e _ ⟨rfl, rfl⟩
    go_wp2
    go_ret2
    exact ⟨by rw [Hz.out.1, Hz.out.2]; rfl, hGz⟩
   | true =>
    obtain ⟨hr0, hr24⟩ := hrows rfl
    obtain ⟨⟨a0, a1, a2⟩, -⟩ := bA.three
    go_wp2_with fail
    refine (l1In_q hin _).mono ?_
    rintro e _ ⟨rfl, rfl⟩
    go_wp2_with fail
    refine (sRankMod_c vA (by omega) hp).mono ?_
    rintro e w4 ⟨rfl, hG4⟩
    have bA4 := bA.grow hG4
    have bB4 := bB.grow hG4
    have vB4 := vB.grow hG4
    clear a0 a1 a2
    obtain ⟨⟨q0, q1, q2⟩, -⟩ := bB4.three
    obtain ⟨b3, hb3⟩ : ∃ b3, b3 = rkOk AM p := ⟨_, rfl⟩
    rw [← hb3] at hdf ⊢
    clear hb3
    go_wp2_with fail
    refine (sRankMod_c vB4 (by omega) hp).mono ?_
    rintro e w5 ⟨rfl, hG5⟩
    have bA5 := bA4.grow hG5
    obtain ⟨b4, hb4⟩ : ∃ b4, b4 = rkOk BM p := ⟨_, rfl⟩
    rw [← hb4] at hdf ⊢
    clear hb4 q0 q1 q2
    obtain ⟨⟨a0, a1, a2⟩, -⟩ := bA5.three
    have hG35 := (hG3.trans hG4).trans hG5
    have hn1 := rkN_le AM p
    have hn2 := rkN_le BM p
    cases b3 with
    | false =>
     have Hz := Lib.hid (hno (by rw [hdf.out, hin]; rfl))
     have hGz := hG35
     clear hdf hno hyes hrows
     go_wp2
     go_ret2
     exact ⟨by rw [Hz.out.1, Hz.out.2]; rfl, hGz⟩
    | true =>
     cases b4 with
     | false =>
      have Hz := Lib.hid (hno (by rw [hdf.out, hin]; rfl))
      have hGz := hG35
      clear hdf hno hyes hrows
      go_wp2
      go_ret2
      exact ⟨by rw [Hz.out.1, Hz.out.2]; rfl, hGz⟩
     | true =>
      have Hy := Lib.hid (hyes (by rw [hdf.out, hin]; rfl))
      clear hdf hno hyes hrows
      generalize rkN AM p = n1 at *
      generalize rkN BM p = n2 at *
      go_wp2
      go_ret2
      exact ⟨by rw [Hy.out.1, Hy.out.2]; rfl, hG35⟩
end Go.Proofs.YtjepiemflpjjhaaGreat
