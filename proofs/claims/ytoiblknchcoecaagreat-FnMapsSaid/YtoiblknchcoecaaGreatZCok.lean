/-
  CokernelIn: the program's and the reference's.
-/
import Derived.Test.YtoiblknchcoecaaGreatZStack
import Derived.Test.YtoiblknchcoecaaGreatZNorm
import Derived.Test.YtoiblknchcoecaaGreatZTor
set_option maxHeartbeats 8000000
set_option maxRecDepth 100000
namespace Go.Proofs.YtoiblknchcoecaaGreat
open Go.RowKit
noncomputable def cokIs (r s f : Mat) : Bool := mapB r s f && stackOk f s
noncomputable def cokOk (r s f : Mat) : Bool := cokIs r s f && facOk (stackB f s)
noncomputable def cokN (r s f : Mat) : Int := if cokIs r s f = true then invN (stackB f s) else 0
noncomputable def cokB (r s f : Mat) : List Int := if cokIs r s f = true then gt1 (facB (stackB f s)) else []
theorem cok_no {r s f : Mat} (h : cokIs r s f = false) : cokOk r s f = false ∧ cokN r s f = 0 ∧ cokB r s f = [] := by
 unfold cokOk cokN cokB; rw [h]; exact ⟨rfl, rfl, rfl⟩
theorem cok_yes {r s f : Mat} (h : cokIs r s f = true) : cokOk r s f = facOk (stackB f s) ∧ cokN r s f = invN (stackB f s) ∧ cokB r s f = gt1 (facB (stackB f s)) := by
 unfold cokOk cokN cokB; rw [h]; exact ⟨rfl, rfl, rfl⟩
theorem stackB_bd (a b : Mat) : bdM (stackB a b) ≤ 576 := isMatB_bd (stackB_mat a b)
theorem implCokernelIn_v {S1 S2 S3 : Nat → Prop} {rv sv fv : Value} {r s f : Mat} {w : World} (hr : VM w S1 rv r) (hbr : bdM r ≤ 1048576) (hs : VM w S2 sv s) (hbs : bdM s ≤ 1048576) (hf : VM w S3 fv f) (hbf : bdM f ≤ 1048576) :
  Calls Tryz.prog 9 #[rv, sv, fv] w fun e w' => ∃ x, e = .returned (.tuple #[x, .int .i64 (cokN r s f), .bool (cokOk r s f)]) ∧ OI w' (New w w') x (cokB r s f) ∧ Grow w w' := by
 have hVR := hr; have hVS := hs; have hVF := hf
 obtain ⟨ra, rn, rc, rfl, hr, -, -⟩ := hr
 obtain ⟨sa, sn, sc, rfl, hs, -, -⟩ := hs
 obtain ⟨fa, fn, fc, rfl, hf, -, -⟩ := hf
 obtain ⟨w5, hw5⟩ : ∃ w5, w5 = ((w.alloc (.cells #[.int .i64 r.rows, .int .i64 r.cols, .slice ra rn rc] 26)).alloc (.cells #[.int .i64 s.rows, .int .i64 s.cols, .slice sa sn sc] 26)).alloc (.cells #[.int .i64 f.rows, .int .i64 f.cols, .slice fa fn fc] 26) := ⟨_, rfl⟩
 have hG5 : Grow w w5 := by rw [hw5]; exact (((Grow.refl w).alloc _ _).alloc _ _).alloc _ _
 have bR : Blk w5 w.heap.size #[.int .i64 r.rows, .int .i64 r.cols, .slice ra rn rc] 26 := by rw [hw5]; exact ((Blk.new w _ _).alloc _).alloc _
 have bS : Blk w5 (w.heap.size + 1) #[.int .i64 s.rows, .int .i64 s.cols, .slice sa sn sc] 26 := by rw [hw5]; exact (Blk.newAt _ _ _ (by simp)).alloc _
 have bF : Blk w5 (w.heap.size + 1 + 1) #[.int .i64 f.rows, .int .i64 f.cols, .slice fa fn fc] 26 := by rw [hw5]; exact Blk.newAt _ _ _ (by simp)
 have Hw5 := Lib.hid hw5; clear hw5
 have hdf : cokIs r s f = (mapB r s f && stackOk f s) := rfl
 have hno := cok_no (r := r) (s := s) (f := f)
 have hyes := cok_yes (r := r) (s := s) (f := f)
 have hbI := stackB_bd f s
 go_enter Tryz.func9, Tryz.ntmps9
 go_wp2_with fail
 rw [← Hw5.out]
 refine (iStackRows_c (hVF.grow hG5) (hVS.grow hG5) hbf hbs).mono ?_
 rintro e w8 ⟨xv, rfl, hX, hG8⟩
 obtain ⟨xa, xn, xc, rfl, oX, rX, fX, ix1, ix2⟩ := hX
 have hGa := (Grow.refl w8).alloc #[.int .i64 (stackB f s).rows, .int .i64 (stackB f s).cols, .slice xa xn xc] 26
 have bX := Blk.new w8 #[.int .i64 (stackB f s).rows, .int .i64 (stackB f s).cols, .slice xa xn xc] 26
 have bR8 := (bR.grow hG8).grow hGa
 have bS8 := (bS.grow hG8).grow hGa
 have bF8 := (bF.grow hG8).grow hGa
 have vX : VM _ (fun _ => True) _ (stackB f s) := ⟨xa, xn, xc, rfl, (oX.rdI (fun _ _ => trivial) rX).grow hGa, ix1, ix2⟩
 have hG58 := (hG5.trans hG8).trans hGa
 obtain ⟨⟨r0, r1, r2⟩, -⟩ := bR8.three
 obtain ⟨⟨s0, s1, s2⟩, -⟩ := bS8.three
 obtain ⟨⟨f0, f1, f2⟩, -⟩ := bF8.three
 have hltR := (bR.grow hG8).lt
 have hltS := (bS.grow hG8).lt
 have hltF := (bF.grow hG8).lt
 clear oX
 go_wp2_with fail
 refine (implIsMap_v (hVR.grow hG58) hbr (hVS.grow hG58) hbs (hVF.grow hG58) hbf).mono ?_
 rintro e w9 ⟨rfl, hG9⟩
 have bX9 := bX.grow hG9
 have vX9 := vX.grow hG9
 have hG59 := hG58.trans hG9
 have hsz := hG59.size
 clear r0 r1 r2 s0 s1 s2 f0 f1 f2
 cases h1 : mapB r s f with
 | false =>
  have Hz := Lib.hid (hno (by rw [hdf, h1]; rfl))
  have hGz := hG59
  clear h1 hdf hno hyes
  go_wp2
  go_ret3
  exact ⟨_, by rw [Hz.out.1, Hz.out.2.1]; rfl, by rw [Hz.out.2.2]; exact OI.nilN (by simp) (by omega), hGz.alloc _ _⟩
 | true =>
  cases h2 : stackOk f s with
  | false =>
   have Hz := Lib.hid (hno (by rw [hdf, h1, h2]; rfl))
   have hGz := hG59
   clear h1 h2 hdf hno hyes
   go_wp2
   go_ret3
   exact ⟨_, by rw [Hz.out.1, Hz.out.2.1]; rfl, by rw [Hz.out.2.2]; exact OI.nilN (by simp) (by omega), hGz.alloc _ _⟩
  | true =>
   have Hy := Lib.hid (hyes (by rw [hdf, h1, h2]; rfl))
   clear h1 h2 hdf hno hyes
   obtain ⟨⟨x0, x1, x2⟩, -⟩ := bX9.three
   go_wp2_with fail
   refine (iInvariants_c vX9 (by omega)).mono ?_
   rintro e w10 ⟨q, rfl, hQ, hG10⟩
   go_wp2
   go_ret3
   exact ⟨_, by rw [Hy.out.1, Hy.out.2.1]; rfl, by rw [Hy.out.2.2]; exact hQ.up fun g hg => ⟨by have := hg.1; omega, hg.2⟩, hG59.trans hG10⟩
end Go.Proofs.YtoiblknchcoecaaGreat
