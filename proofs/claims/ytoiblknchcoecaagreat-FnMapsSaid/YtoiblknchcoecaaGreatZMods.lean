/-
  What ImageIn, KernelIn, HomologyOf and CohomologyOf answer: plain.
-/
import Derived.Test.YtoiblknchcoecaaGreatZQuo
import Derived.Test.YtoiblknchcoecaaGreatZStack
import Derived.Test.YtoiblknchcoecaaGreatZNorm
set_option maxHeartbeats 8000000
set_option maxRecDepth 100000
namespace Go.Proofs.YtoiblknchcoecaaGreat
open Go.RowKit
noncomputable def mqOk (i : Bool) (a b : Mat) : Bool := i && quOk a b
noncomputable def mqN (i : Bool) (a b : Mat) : Int := if i = true then quN a b else 0
noncomputable def mqB (i : Bool) (a b : Mat) : List Int := if i = true then quB a b else []
theorem mq_no {i : Bool} {a b : Mat} (h : i = false) : mqOk i a b = false ∧ mqN i a b = 0 ∧ mqB i a b = [] := by
 subst h; exact ⟨rfl, rfl, rfl⟩
theorem mq_yes {i : Bool} {a b : Mat} (h : i = true) : mqOk i a b = quOk a b ∧ mqN i a b = quN a b ∧ mqB i a b = quB a b := by
 subst h; exact ⟨rfl, rfl, rfl⟩
theorem imgB_bd (s f : Mat) : bdM (imB s f) ≤ 1024 := by
 unfold imB
 split
 ·exact basB_bd _
 ·simp [bdM]
theorem tzB_bd (s f : Mat) : bdM (tzB s f) ≤ 1024 := by
 unfold tzB
 split
 ·exact basB_bd _
 ·simp [bdM]
theorem OI.upM {w : World} {S T : Nat → Prop} {v : Value} {xs : List Int} (h : OI w S v xs) (hST : ∀ g, S g → T g) : OI w T v xs := by
 obtain ⟨a, n, c, h1, h2, h3, h4⟩ := h
 exact ⟨a, n, c, h1, h2, h3, fun g hg => hST g (h4 g hg)⟩
theorem OI.nilM {w : World} {F : Nat → Prop} {g : Nat} (hg : g = w.heap.size) (hF : F g) : OI (w.alloc (.cells #[] 3)) F (.slice (some ⟨g, 0, none⟩) 0 0) [] :=
 ⟨_, _, _, rfl, Own.freshAt (cs := #[]) hg (by unfold maxLen; omega) rfl, (fun x hx => by cases hx), fun q hq => by simp at hq; subst hq; exact hF⟩
end Go.Proofs.YtoiblknchcoecaaGreat

namespace Go.Proofs.YtoiblknchcoecaaGreat
open Go.RowKit
def imgIs (r s f : Mat) : Bool := mapB r s f && (imOk s f && basOk s)
def kerIs (r s f : Mat) : Bool := mapB r s f && (tzOk s f && basOk r)
theorem implImageIn_v {S1 S2 S3 : Nat → Prop} {rv sv fv : Value} {r s f : Mat} {w : World} (hr : VM w S1 rv r) (hbr : bdM r ≤ 1048576) (hs : VM w S2 sv s) (hbs : bdM s ≤ 1048576) (hf : VM w S3 fv f) (hbf : bdM f ≤ 1048576) :
  Calls Tryz.prog 8 #[rv, sv, fv] w fun e w' => ∃ x, e = .returned (.tuple #[x, .int .i64 (mqN (imgIs r s f) (imB s f) (basB s)), .bool (mqOk (imgIs r s f) (imB s f) (basB s))]) ∧ OI w' (New w w') x (mqB (imgIs r s f) (imB s f) (basB s)) ∧ Grow w w' := by
 have hVR := hr; have hVS := hs; have hVF := hf
 obtain ⟨ra, rn, rc, rfl, hr, -, -⟩ := hr
 obtain ⟨sa, sn, sc, rfl, hs, -, -⟩ := hs
 obtain ⟨fa, fn, fc, rfl, hf, -, -⟩ := hf
 obtain ⟨w5, hw5⟩ : ∃ w5, w5 = ((w.alloc (.cells #[.int .i64 r.rows, .int .i64 r.cols, .slice ra rn rc] 26)).alloc (.cells #[.int .i64 s.rows, .int .i64 s.cols, .slice sa sn sc] 26)).alloc (.cells #[.int .i64 f.rows, .int .i64 f.cols, .slice fa fn fc] 26) := ⟨_, rfl⟩
 have hG5 : Grow w w5 := by rw [hw5]; exact (((Grow.refl w).alloc _ _).alloc _ _).alloc _ _
 have bR : Blk w5 w.heap.size #[.int .i64 r.rows, .int .i64 r.cols, .slice ra rn rc] 26 := by rw [hw5]; exact ((Blk.new w _ _).alloc _).alloc _
 have bS : Blk w5 (w.heap.size + 1) #[.int .i64 s.rows, .int .i64 s.cols, .slice sa sn sc] 26 := by rw [hw5]; exact (Blk.newAt _ _ _ (by simp)).alloc _
 have bF : Blk w5 (w.heap.size + 1 + 1) #[.int .i64 f.rows, .int .i64 f.cols, .slice fa fn fc] 26 := by rw [hw5]; exact Blk.newAt _ _ _ (by simp)
 have Hw5 := Lib.hid hw5; clear hw5
 have hbX := imgB_bd s f
 have hbY := basB_bd s
 have hdf : imgIs r s f = (mapB r s f && (imOk s f && basOk s)) := rfl
 have hno := mq_no (i := imgIs r s f) (a := imB s f) (b := basB s)
 have hyes := mq_yes (i := imgIs r s f) (a := imB s f) (b := basB s)
 generalize mqOk (imgIs r s f) (imB s f) (basB s) = mo at *
 generalize mqN (imgIs r s f) (imB s f) (basB s) = mn at *
 generalize mqB (imgIs r s f) (imB s f) (basB s) = mb at *
 go_enter Tryz.func8, Tryz.ntmps8
 go_wp2_with fail
 rw [← Hw5.out]
 refine (implIsMap_v (hVR.grow hG5) hbr (hVS.grow hG5) hbs (hVF.grow hG5) hbf).mono ?_
 rintro e w6 ⟨rfl, hG6⟩
 have bR6 := bR.grow hG6
 have bS6 := bS.grow hG6
 have bF6 := bF.grow hG6
 have hG56 := hG5.trans hG6
 cases h1 : mapB r s f with
 | false =>
  have Hz := Lib.hid (hno (by rw [hdf, h1]; rfl))
  have hGz := hG56
  clear h1 hdf hno hyes
  have hsq := hGz.size
  go_wp2
  go_ret3
  exact ⟨_, by rw [Hz.out.1, Hz.out.2.1]; rfl, by rw [Hz.out.2.2]; exact OI.nilM (by simp) ⟨by (try simp at hsq); omega, by simp⟩, hGz.alloc _ _⟩
 | true =>
  obtain ⟨⟨s0, s1, s2⟩, -⟩ := bS6.three
  obtain ⟨⟨f0, f1, f2⟩, -⟩ := bF6.three
  go_wp2_with fail
  refine (iImage_c (hVS.grow hG56) hbs (hVF.grow hG56) hbf).mono ?_
  rintro e w8 ⟨xv, rfl, hX, hG8⟩
  generalize imB s f = XM at *
  obtain ⟨xa, xn, xc, rfl, oX, rX, fX, ix1, ix2⟩ := hX
  have hGa := (Grow.refl w8).alloc #[.int .i64 XM.rows, .int .i64 XM.cols, .slice xa xn xc] 26
  have bX := Blk.new w8 #[.int .i64 XM.rows, .int .i64 XM.cols, .slice xa xn xc] 26
  have bZ8 := (bS6.grow hG8).grow hGa
  have vX : VM _ (fun _ => True) _ XM := ⟨xa, xn, xc, rfl, (oX.rdI (fun _ _ => trivial) rX).grow hGa, ix1, ix2⟩
  have hG58 := (hG56.trans hG8).trans hGa
  clear s0 s1 s2 f0 f1 f2
  obtain ⟨⟨z0, z1, z2⟩, -⟩ := bZ8.three
  have hltZ := (bS6.grow hG8).lt
  clear oX
  go_wp2_with fail
  refine (iBasisOf_c (hVS.grow hG58) hbs).mono ?_
  rintro e w9 ⟨yv, rfl, hY, hG9⟩
  generalize basB s = YM at *
  obtain ⟨ya, yn, yc, rfl, oY, rY, fY, iy1, iy2⟩ := hY
  have hGb := (Grow.refl w9).alloc #[.int .i64 YM.rows, .int .i64 YM.cols, .slice ya yn yc] 26
  have bY := Blk.new w9 #[.int .i64 YM.rows, .int .i64 YM.cols, .slice ya yn yc] 26
  have bX9 := (bX.grow hG9).grow hGb
  have hltX := (bX.grow hG9).lt
  have vX9 := (vX.grow hG9).grow hGb
  have vY : VM _ (fun _ => True) _ YM := ⟨ya, yn, yc, rfl, (oY.rdI (fun _ _ => trivial) rY).grow hGb, iy1, iy2⟩
  have hG59 := (hG58.trans hG9).trans hGb
  clear z0 z1 z2 oY
  cases h3 : imOk s f with
  | false =>
   have Hz := Lib.hid (hno (by rw [hdf, h1, h3]; rfl))
   have hGz := hG59
   clear h1 h3 hdf hno hyes
   have hsq := hGz.size
   go_wp2
   go_ret3
   exact ⟨_, by rw [Hz.out.1, Hz.out.2.1]; rfl, by rw [Hz.out.2.2]; exact OI.nilM (by simp) ⟨by (try simp at hsq); omega, by simp⟩, hGz.alloc _ _⟩
  | true =>
   cases h4 : basOk s with
   | false =>
    have Hz := Lib.hid (hno (by rw [hdf, h1, h3, h4]; rfl))
    have hGz := hG59
    clear h1 h3 h4 hdf hno hyes
    have hsq := hGz.size
    go_wp2
    go_ret3
    exact ⟨_, by rw [Hz.out.1, Hz.out.2.1]; rfl, by rw [Hz.out.2.2]; exact OI.nilM (by simp) ⟨by (try simp at hsq); omega, by simp⟩, hGz.alloc _ _⟩
   | true =>
    have Hy := Lib.hid (hyes (by rw [hdf, h1, h3, h4]; rfl))
    clear h1 h3 h4 hdf hno hyes
    obtain ⟨⟨x0, x1, x2⟩, -⟩ := bX9.three
    obtain ⟨⟨y0, y1, y2⟩, -⟩ := bY.three
    have hs59 := hG59.size
    go_wp2_with fail
    refine (iQuotient_c vX9 (by omega) vY (by omega)).mono ?_
    rintro e w10 ⟨q, rfl, hQ, hG10⟩
    go_wp2
    go_ret3
    exact ⟨_, by rw [Hy.out.1, Hy.out.2.1]; rfl, by rw [Hy.out.2.2]; exact hQ.upM fun g hg => ⟨by have := hg.1; omega, hg.2⟩, hG59.trans hG10⟩
theorem implKernelIn_v {S1 S2 S3 : Nat → Prop} {rv sv fv : Value} {r s f : Mat} {w : World} (hr : VM w S1 rv r) (hbr : bdM r ≤ 1048576) (hs : VM w S2 sv s) (hbs : bdM s ≤ 1048576) (hf : VM w S3 fv f) (hbf : bdM f ≤ 1048576) :
  Calls Tryz.prog 7 #[rv, sv, fv] w fun e w' => ∃ x, e = .returned (.tuple #[x, .int .i64 (mqN (kerIs r s f) (tzB s f) (basB r)), .bool (mqOk (kerIs r s f) (tzB s f) (basB r))]) ∧ OI w' (New w w') x (mqB (kerIs r s f) (tzB s f) (basB r)) ∧ Grow w w' := by
 have hVR := hr; have hVS := hs; have hVF := hf
 obtain ⟨ra, rn, rc, rfl, hr, -, -⟩ := hr
 obtain ⟨sa, sn, sc, rfl, hs, -, -⟩ := hs
 obtain ⟨fa, fn, fc, rfl, hf, -, -⟩ := hf
 obtain ⟨w5, hw5⟩ : ∃ w5, w5 = ((w.alloc (.cells #[.int .i64 r.rows, .int .i64 r.cols, .slice ra rn rc] 26)).alloc (.cells #[.int .i64 s.rows, .int .i64 s.cols, .slice sa sn sc] 26)).alloc (.cells #[.int .i64 f.rows, .int .i64 f.cols, .slice fa fn fc] 26) := ⟨_, rfl⟩
 have hG5 : Grow w w5 := by rw [hw5]; exact (((Grow.refl w).alloc _ _).alloc _ _).alloc _ _
 have bR : Blk w5 w.heap.size #[.int .i64 r.rows, .int .i64 r.cols, .slice ra rn rc] 26 := by rw [hw5]; exact ((Blk.new w _ _).alloc _).alloc _
 have bS : Blk w5 (w.heap.size + 1) #[.int .i64 s.rows, .int .i64 s.cols, .slice sa sn sc] 26 := by rw [hw5]; exact (Blk.newAt _ _ _ (by simp)).alloc _
 have bF : Blk w5 (w.heap.size + 1 + 1) #[.int .i64 f.rows, .int .i64 f.cols, .slice fa fn fc] 26 := by rw [hw5]; exact Blk.newAt _ _ _ (by simp)
 have Hw5 := Lib.hid hw5; clear hw5
 have hbX := tzB_bd s f
 have hbY := basB_bd r
 have hdf : kerIs r s f = (mapB r s f && (tzOk s f && basOk r)) := rfl
 have hno := mq_no (i := kerIs r s f) (a := tzB s f) (b := basB r)
 have hyes := mq_yes (i := kerIs r s f) (a := tzB s f) (b := basB r)
 generalize mqOk (kerIs r s f) (tzB s f) (basB r) = mo at *
 generalize mqN (kerIs r s f) (tzB s f) (basB r) = mn at *
 generalize mqB (kerIs r s f) (tzB s f) (basB r) = mb at *
 go_enter Tryz.func7, Tryz.ntmps7
 go_wp2_with fail
 rw [← Hw5.out]
 refine (implIsMap_v (hVR.grow hG5) hbr (hVS.grow hG5) hbs (hVF.grow hG5) hbf).mono ?_
 rintro e w6 ⟨rfl, hG6⟩
 have bR6 := bR.grow hG6
 have bS6 := bS.grow hG6
 have bF6 := bF.grow hG6
 have hG56 := hG5.trans hG6
 cases h1 : mapB r s f with
 | false =>
  have Hz := Lib.hid (hno (by rw [hdf, h1]; rfl))
  have hGz := hG56
  clear h1 hdf hno hyes
  have hsq := hGz.size
  go_wp2
  go_ret3
  exact ⟨_, by rw [Hz.out.1, Hz.out.2.1]; rfl, by rw [Hz.out.2.2]; exact OI.nilM (by simp) ⟨by (try simp at hsq); omega, by simp⟩, hGz.alloc _ _⟩
 | true =>
  obtain ⟨⟨s0, s1, s2⟩, -⟩ := bS6.three
  obtain ⟨⟨f0, f1, f2⟩, -⟩ := bF6.three
  go_wp2_with fail
  refine (iTaken_c (hVS.grow hG56) hbs (hVF.grow hG56) hbf).mono ?_
  rintro e w8 ⟨xv, rfl, hX, hG8⟩
  generalize tzB s f = XM at *
  obtain ⟨xa, xn, xc, rfl, oX, rX, fX, ix1, ix2⟩ := hX
  have hGa := (Grow.refl w8).alloc #[.int .i64 XM.rows, .int .i64 XM.cols, .slice xa xn xc] 26
  have bX := Blk.new w8 #[.int .i64 XM.rows, .int .i64 XM.cols, .slice xa xn xc] 26
  have bZ8 := (bR6.grow hG8).grow hGa
  have vX : VM _ (fun _ => True) _ XM := ⟨xa, xn, xc, rfl, (oX.rdI (fun _ _ => trivial) rX).grow hGa, ix1, ix2⟩
  have hG58 := (hG56.trans hG8).trans hGa
  clear s0 s1 s2 f0 f1 f2
  obtain ⟨⟨z0, z1, z2⟩, -⟩ := bZ8.three
  have hltZ := (bR6.grow hG8).lt
  clear oX
  go_wp2_with fail
  refine (iBasisOf_c (hVR.grow hG58) hbr).mono ?_
  rintro e w9 ⟨yv, rfl, hY, hG9⟩
  generalize basB r = YM at *
  obtain ⟨ya, yn, yc, rfl, oY, rY, fY, iy1, iy2⟩ := hY
  have hGb := (Grow.refl w9).alloc #[.int .i64 YM.rows, .int .i64 YM.cols, .slice ya yn yc] 26
  have bY := Blk.new w9 #[.int .i64 YM.rows, .int .i64 YM.cols, .slice ya yn yc] 26
  have bX9 := (bX.grow hG9).grow hGb
  have hltX := (bX.grow hG9).lt
  have vX9 := (vX.grow hG9).grow hGb
  have vY : VM _ (fun _ => True) _ YM := ⟨ya, yn, yc, rfl, (oY.rdI (fun _ _ => trivial) rY).grow hGb, iy1, iy2⟩
  have hG59 := (hG58.trans hG9).trans hGb
  clear z0 z1 z2 oY
  cases h3 : tzOk s f with
  | false =>
   have Hz := Lib.hid (hno (by rw [hdf, h1, h3]; rfl))
   have hGz := hG59
   clear h1 h3 hdf hno hyes
   have hsq := hGz.size
   go_wp2
   go_ret3
   exact ⟨_, by rw [Hz.out.1, Hz.out.2.1]; rfl, by rw [Hz.out.2.2]; exact OI.nilM (by simp) ⟨by (try simp at hsq); omega, by simp⟩, hGz.alloc _ _⟩
  | true =>
   cases h4 : basOk r with
   | false =>
    have Hz := Lib.hid (hno (by rw [hdf, h1, h3, h4]; rfl))
    have hGz := hG59
    clear h1 h3 h4 hdf hno hyes
    have hsq := hGz.size
    go_wp2
    go_ret3
    exact ⟨_, by rw [Hz.out.1, Hz.out.2.1]; rfl, by rw [Hz.out.2.2]; exact OI.nilM (by simp) ⟨by (try simp at hsq); omega, by simp⟩, hGz.alloc _ _⟩
   | true =>
    have Hy := Lib.hid (hyes (by rw [hdf, h1, h3, h4]; rfl))
    clear h1 h3 h4 hdf hno hyes
    obtain ⟨⟨x0, x1, x2⟩, -⟩ := bX9.three
    obtain ⟨⟨y0, y1, y2⟩, -⟩ := bY.three
    have hs59 := hG59.size
    go_wp2_with fail
    refine (iQuotient_c vX9 (by omega) vY (by omega)).mono ?_
    rintro e w10 ⟨q, rfl, hQ, hG10⟩
    go_wp2
    go_ret3
    exact ⟨_, by rw [Hy.out.1, Hy.out.2.1]; rfl, by rw [Hy.out.2.2]; exact hQ.upM fun g hg => ⟨by have := hg.1; omega, hg.2⟩, hG59.trans hG10⟩
end Go.Proofs.YtoiblknchcoecaaGreat
