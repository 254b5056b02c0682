/-
  BettiOf: the program's.
-/
import Derived.Test.YtneeelebnnfbeaaZRnkP
import Derived.Test.YtneeelebnnfbeaaZEchI
import Derived.Test.YtneeelebnnfbeaaZBoundary
import Derived.Test.YtneeelebnnfbeaaZBase
import Derived.Test.YtneeelebnnfbeaaZRan
set_option maxHeartbeats 8000000
set_option maxRecDepth 100000
namespace Go.Proofs.Ytneeelebnnfbeaa
open Go.RowKit
noncomputable def bqOk (l : List (List Int)) (k : Int) : Bool := inB k 0 3 && (boundOk l k && (boundOk l (wrap64 (k + 1)) && (ecOk (boundB l k) && ecOk (boundB l (wrap64 (k + 1))))))
noncomputable def bqN (l : List (List Int)) (k : Int) : Int := if bqOk l k = true then (boundB l k).rows - (ecT (boundB l k) : Nat) - (ecT (boundB l (wrap64 (k + 1))) : Nat) else 0
theorem bq_no {l : List (List Int)} {k : Int} (h : bqOk l k = false) : bqOk l k = false ∧ bqN l k = 0 := by unfold bqN; rw [h]; exact ⟨rfl, rfl⟩
theorem bq_yes {l : List (List Int)} {k : Int} (h : bqOk l k = true) : bqOk l k = true ∧ bqN l k = (boundB l k).rows - (ecT (boundB l k) : Nat) - (ecT (boundB l (wrap64 (k + 1))) : Nat) := by unfold bqN; rw [if_pos h]; exact ⟨h, rfl⟩
theorem ecT_le24 (m : Mat) : ecT m ≤ 24 := by
 cases h : echR m with
 | none => unfold ecT; rw [h]; simp
 | some y =>
  obtain ⟨T, z⟩ := y
  rw [(ec_some h).2]
  obtain ⟨p, hp, -⟩ := echR_spec h
  have h1 := hp.le
  by_cases hB : isMatB m = true
  ·obtain ⟨R, C, hmr, hmc, hR, hC, hl, hnum⟩ := isMatB_shape hB
   rw [hmr, Int.toNat_natCast] at h1
   omega
  ·unfold echR at h; rw [if_neg hB] at h; cases h
theorem wrap_bq (n : Int) : I64 (wrap64 n) := by unfold wrap64 I64; omega
theorem boundq_rows {l : List (List Int)} {k : Int} (h : boundOk l k = true) : 0 ≤ (boundB l k).rows ∧ (boundB l k).rows ≤ 24 := by
 have hC : IsCplx l := isCplxB_iff.1 (by unfold boundOk at h; simp at h; exact h.1)
 unfold boundB
 rw [if_pos h]
 have := cplx_few hC k
 show 0 ≤ ((facesB l k).length : Int) ∧ ((facesB l k).length : Int) ≤ 24
 omega
theorem bettiByQ_c {S : Nat → Prop} {v : Value} {l : List (List Int)} {k : Int} {w : World} (h : VII w S v l) (hb : bdII l ≤ 1048576) (hk : I64 k) :
  Calls Try.prog 14 #[v, .int .i64 k, .func (.func 15) #[] #[]] w fun e w' => e = .returned (.tuple #[.int .i64 (bqN l k), .bool (bqOk l k)]) ∧ Grow w w' := by
 have hdf := Lib.hid (show bqOk l k = (inB k 0 3 && (boundOk l k && (boundOk l (wrap64 (k + 1)) && (ecOk (boundB l k) && ecOk (boundB l (wrap64 (k + 1))))))) from rfl)
 have hno := bq_no (l := l) (k := k)
 have hyes := bq_yes (l := l) (k := k)
 have hrows := fun h => boundq_rows (l := l) (k := k) h
 have hbA := boundB_bd l k
 have hbB := boundB_bd l (wrap64 (k + 1))
 generalize bqOk l k = bo at *
 generalize bqN l k = bn at *
 by_cases hk0 : 0 ≤ k ∧ k ≤ 3
 ·have hin : inB k 0 3 = true := by unfold inB; simp; omega
  have hkw := wrap_bq (k + 1)
  have hwe : wrap64 (k + 1) = k + 1 := by unfold wrap64; omega
  obtain ⟨kk, hkk⟩ : ∃ kk, kk = wrap64 (k + 1) := ⟨_, rfl⟩
  rw [← hkk] at hkw hdf hbB hyes
  have hke : kk = k + 1 := by rw [hkk, hwe]
  obtain ⟨k0, k3⟩ := hk0
  clear hwe hkk
  go_enter Try.func14, Try.ntmps14
  go_wp2_with fail
  refine (implBoundaryOf_v h hb hk).mono ?_
  rintro e w2 ⟨ra, rfl, hA, hGA⟩
  generalize boundB l k = AM at *
  obtain ⟨Aa, An, Ac, rfl, oA, rA, fA, iA1, iA2⟩ := hA
  have hGaA := (Grow.refl w2).alloc #[.int .i64 AM.rows, .int .i64 AM.cols, .slice Aa An Ac] 32
  have bA := Blk.new w2 #[.int .i64 AM.rows, .int .i64 AM.cols, .slice Aa An Ac] 32
  have vA : VM _ (fun _ => True) _ AM := ⟨Aa, An, Ac, rfl, (oA.rdI (fun _ _ => trivial) rA).grow hGaA, iA1, iA2⟩
  clear oA
  have hG2 := hGA.trans hGaA
  obtain ⟨b1, hb1⟩ : ∃ b1, b1 = boundOk l k := ⟨_, rfl⟩
  rw [← hb1] at hdf hrows ⊢
  clear hb1
  go_wp2_with fail
  rw [← hke]
  clear hke
  refine (implBoundaryOf_v (h.grow hG2) hb hkw).mono ?_
  rintro e w3 ⟨rb, rfl, hB, hGB⟩
  generalize boundB l kk = BM at *
  obtain ⟨Ba, Bn, Bc, rfl, oB, rB, fB, iB1, iB2⟩ := hB
  have hGaB := (Grow.refl w3).alloc #[.int .i64 BM.rows, .int .i64 BM.cols, .slice Ba Bn Bc] 32
  have bB := Blk.new w3 #[.int .i64 BM.rows, .int .i64 BM.cols, .slice Ba Bn Bc] 32
  have vB : VM _ (fun _ => True) _ BM := ⟨Ba, Bn, Bc, rfl, (oB.rdI (fun _ _ => trivial) rB).grow hGaB, iB1, iB2⟩
  clear oB
  replace bA := bA.grow hGB
  have hlAB := bA.lt
  replace bA := bA.grow hGaB
  replace vA := (vA.grow hGB).grow hGaB
  have hG3 := (hG2.trans hGB).trans hGaB
  obtain ⟨b2, hb2⟩ : ∃ b2, b2 = boundOk l kk := ⟨_, rfl⟩
  rw [← hb2] at hdf ⊢
  clear hb2
  cases b1 with
  | false =>
   have Hz := Lib.hid (hno (by rw [hdf.out, hin]; rfl))
   have hGz := hG3
   clear hdf hno hyes hrows
   go_wp2
   go_ret2
   exact ⟨by rw [Hz.out.1, Hz.out.2]; rfl, hGz⟩
  | true =>
   cases b2 with
   | false =>
    have Hz := Lib.hid (hno (by rw [hdf.out, hin]; rfl))
    have hGz := hG3
    clear hdf hno hyes hrows
    go_wp2
    go_ret2
    exact ⟨by rw [Hz.out.1, Hz.out.2]; rfl, hGz⟩
   | true =>
    obtain ⟨hr0, hr24⟩ := hrows rfl
    obtain ⟨⟨a0, a1, a2⟩, -⟩ := bA.three
    go_wp2_with fail
    refine (iRankOf_c vA (by omega)).mono ?_
    rintro e w4 ⟨rfl, hG4⟩
    have bA4 := bA.grow hG4
    have bB4 := bB.grow hG4
    have vB4 := vB.grow hG4
    clear a0 a1 a2
    obtain ⟨⟨q0, q1, q2⟩, -⟩ := bB4.three
    obtain ⟨b3, hb3⟩ : ∃ b3, b3 = ecOk AM := ⟨_, rfl⟩
    rw [← hb3] at hdf ⊢
    clear hb3
    go_wp2_with fail
    refine (iRankOf_c vB4 (by omega)).mono ?_
    rintro e w5 ⟨rfl, hG5⟩
    have bA5 := bA4.grow hG5
    obtain ⟨b4, hb4⟩ : ∃ b4, b4 = ecOk BM := ⟨_, rfl⟩
    rw [← hb4] at hdf ⊢
    clear hb4 q0 q1 q2
    obtain ⟨⟨a0, a1, a2⟩, -⟩ := bA5.three
    have hG35 := (hG3.trans hG4).trans hG5
    have hn1 := ecT_le24 AM
    have hn2 := ecT_le24 BM
    cases b3 with
    | false =>
     have Hz := Lib.hid (hno (by rw [hdf.out, hin]; rfl))
     have hGz := hG35
     clear hdf hno hyes hrows
     go_wp2
     go_ret2
     exact ⟨by rw [Hz.out.1, Hz.out.2]; rfl, hGz⟩
    | true =>
     cases b4 with
     | false =>
      have Hz := Lib.hid (hno (by rw [hdf.out, hin]; rfl))
      have hGz := hG35
      clear hdf hno hyes hrows
      go_wp2
      go_ret2
      exact ⟨by rw [Hz.out.1, Hz.out.2]; rfl, hGz⟩
     | true =>
      have Hy := Lib.hid (hyes (by rw [hdf.out, hin]; rfl))
      clear hdf hno hyes hrows
      generalize ecT AM = n1 at *
      generalize ecT BM = n2 at *
      go_wp2
      go_ret2
      exact ⟨by rw [Hy.out.1, Hy.out.2]; rfl, hG35⟩
 ·have Hz := Lib.hid (hno (by rw [hdf.out, show inB k 0 3 = false by unfold inB; simp; omega]; rfl))
  have hGz := Grow.refl w
  clear hdf hno hyes hrows
  by_cases h0 : k < 0
  ·go_enter Try.func14, Try.ntmps14
   go_wp2
   go_ret2
   exact ⟨by rw [Hz.out.1, Hz.out.2]; rfl, hGz⟩
  ·have h3 : 3 < k := by omega
   go_enter Try.func14, Try.ntmps14
   go_wp2
   go_ret2
   exact ⟨by rw [Hz.out.1, Hz.out.2]; rfl, hGz⟩
theorem implBettiOf_v {S : Nat → Prop} {v : Value} {l : List (List Int)} {k : Int} {w : World} (h : VII w S v l) (hb : bdII l ≤ 1048576) (hk : I64 k) :
  Calls Try.prog 7 #[v, .int .i64 k] w fun e w' => e = .returned (.tuple #[.int .i64 (bqN l k), .bool (bqOk l k)]) ∧ Grow w w' := by
 have hmf : ∀ (fn : Fn) (first cap : Array Value) (w : World), (Instr.makeFunc fn first cap).run Try.prog w = .ok (.func fn first cap) w := fun _ _ _ _ => rfl
 go_enter Try.func7, Try.ntmps7
 go_wp2_with fail
 refine (bettiByQ_c h hb hk).mono ?_
 rintro e w2 ⟨rfl, hG2⟩
 go_wp2
 go_ret2
 exact ⟨rfl, hG2⟩
end Go.Proofs.Ytneeelebnnfbeaa

namespace Go.Proofs.Ytneeelebnnfbeaa
open Go.RowKit
theorem bq_ec {l : List (List Int)} {k : Int} (h : boundOk l k = true) : ecOk (boundB l k) = true := by
 have h1 := h
 unfold boundOk at h1
 rw [Bool.and_eq_true] at h1
 have hC : IsCplx l := isCplxB_iff.1 h1.1
 have h2 : 0 ≤ k ∧ k ≤ 4 := by have := h1.2; unfold inB at this; simpa using this
 unfold boundB
 rw [if_pos h]
 exact bound_ec hC h2.1 h2.2
theorem specBettiOf_v {S : Nat → Prop} {v : Value} {l : List (List Int)} {k : Int} {w : World} (h : VII w S v l) (hb : bdII l ≤ 1048576) (hk : I64 k) :
  Calls Try.prog 5 #[v, .int .i64 k] w fun e w' => e = .returned (.tuple #[.int .i64 (bqN l k), .bool (bqOk l k)]) ∧ Grow w w' := by
 have hdf := Lib.hid (show bqOk l k = (inB k 0 3 && (boundOk l k && (boundOk l (wrap64 (k + 1)) && (ecOk (boundB l k) && ecOk (boundB l (wrap64 (k + 1))))))) from rfl)
 have hno := bq_no (l := l) (k := k)
 have hyes := bq_yes (l := l) (k := k)
 have hrows := fun h => boundq_rows (l := l) (k := k) h
 have hbA := boundB_bd l k
 have hbB := boundB_bd l (wrap64 (k + 1))
 generalize bqOk l k = bo at *
 generalize bqN l k = bn at *
 have hkw := wrap_bq (k + 1)
 obtain ⟨kk, hkk⟩ : ∃ kk, kk = wrap64 (k + 1) := ⟨_, rfl⟩
 rw [← hkk] at hkw hdf hbB hyes
 have Hkk := Lib.hid hkk
 clear hkk
 go_enter Try.func5, Try.ntmps5
 go_wp2_with fail
 refine (specBoundaryOf_v h hb hk).mono ?_
 rintro e w2 ⟨ra, rfl, hA, hGA⟩
 have hec1 := bq_ec (l := l) (k := k)
 generalize boundB l k = AM at *
 obtain ⟨Aa, An, Ac, rfl, oA, rA, fA, iA1, iA2⟩ := hA
 have hGaA := (Grow.refl w2).alloc #[.int .i64 AM.rows, .int .i64 AM.cols, .slice Aa An Ac] 32
 have bA := Blk.new w2 #[.int .i64 AM.rows, .int .i64 AM.cols, .slice Aa An Ac] 32
 have vA : VM _ (fun _ => True) _ AM := ⟨Aa, An, Ac, rfl, (oA.rdI (fun _ _ => trivial) rA).grow hGaA, iA1, iA2⟩
 clear oA
 have hG2 := hGA.trans hGaA
 obtain ⟨b1, hb1⟩ : ∃ b1, b1 = boundOk l k := ⟨_, rfl⟩
 rw [← hb1] at hdf hrows hec1 ⊢
 clear hb1
 go_wp2_with fail
 rw [← Hkk.out]
 refine (specBoundaryOf_v (h.grow hG2) hb hkw).mono ?_
 rintro e w3 ⟨rb, rfl, hB, hGB⟩
 have hec2 := bq_ec (l := l) (k := kk)
 generalize boundB l kk = BM at *
 obtain ⟨Ba, Bn, Bc, rfl, oB, rB, fB, iB1, iB2⟩ := hB
 have hGaB := (Grow.refl w3).alloc #[.int .i64 BM.rows, .int .i64 BM.cols, .slice Ba Bn Bc] 32
 have bB := Blk.new w3 #[.int .i64 BM.rows, .int .i64 BM.cols, .slice Ba Bn Bc] 32
 have vB : VM _ (fun _ => True) _ BM := ⟨Ba, Bn, Bc, rfl, (oB.rdI (fun _ _ => trivial) rB).grow hGaB, iB1, iB2⟩
 clear oB
 replace bA := bA.grow hGB
 have hlAB := bA.lt
 replace bA := bA.grow hGaB
 replace vA := (vA.grow hGB).grow hGaB
 have hG3 := (hG2.trans hGB).trans hGaB
 obtain ⟨b2, hb2⟩ : ∃ b2, b2 = boundOk l kk := ⟨_, rfl⟩
 rw [← hb2] at hdf hec2 ⊢
 clear hb2
 cases b1 with
 | false =>
  have Hz := Lib.hid (hno (by rw [hdf.out]; simp))
  have hGz := hG3
  clear hdf hno hyes hrows
  go_wp2
  go_ret2
  exact ⟨by rw [Hz.out.1, Hz.out.2]; rfl, hGz⟩
 | true =>
  cases b2 with
  | false =>
   have Hz := Lib.hid (hno (by rw [hdf.out]; simp))
   have hGz := hG3
   clear hdf hno hyes hrows
   go_wp2
   go_ret2
   exact ⟨by rw [Hz.out.1, Hz.out.2]; rfl, hGz⟩
  | true =>
   cases hin : inB k 0 3 with
   | false =>
    have Hz := Lib.hid (hno (by rw [hdf.out, hin]; rfl))
    have hGz := hG3
    clear hdf hno hyes hrows
    go_wp2_with fail
    refine (l1In_q hin _).mono ?_
    rintro e _ ⟨rfl, rfl⟩
    go_wp2
    go_ret2
    exact ⟨by rw [Hz.out.1, Hz.out.2]; rfl, hGz⟩
   | true =>
    obtain ⟨hr0, hr24⟩ := hrows rfl
    obtain ⟨⟨a0, a1, a2⟩, -⟩ := bA.three
    go_wp2_with fail
    refine (l1In_q hin _).mono ?_
    rintro e _ ⟨rfl, rfl⟩
    go_wp2_with fail
    refine (sRankOf_c vA (by omega)).mono ?_
    rintro e w4 ⟨rfl, hG4⟩
    have bA4 := bA.grow hG4
    have bB4 := bB.grow hG4
    have vB4 := vB.grow hG4
    clear a0 a1 a2
    obtain ⟨⟨q0, q1, q2⟩, -⟩ := bB4.three
    have He1 := hec1 trivial
    have He2 := hec2 trivial
    rw [He1] at hdf ⊢
    rw [He2] at hdf
    have HE2 := Lib.hid He2
    clear He1 He2 hec1 hec2
    go_wp2_with fail
    refine (sRankOf_c vB4 (by omega)).mono ?_
    rintro e w5 ⟨rfl, hG5⟩
    rw [HE2.out]
    have bA5 := bA4.grow hG5
    clear q0 q1 q2
    obtain ⟨⟨a0, a1, a2⟩, -⟩ := bA5.three
    have hG35 := (hG3.trans hG4).trans hG5
    have hn1 := ecT_le24 AM
    have hn2 := ecT_le24 BM
    have Hy := Lib.hid (hyes (by rw [hdf.out, hin]; rfl))
    clear hdf hno hyes hrows HE2
    generalize ecT AM = n1 at *
    generalize ecT BM = n2 at *
    have hltA := bA5.lt
    go_wp2
    go_ret2
    exact ⟨by rw [Hy.out.1, Hy.out.2]; rfl, hG35⟩
end Go.Proofs.Ytneeelebnnfbeaa
