/-
  CyclesOf: both walks.
-/
import Derived.Test.YtjepiemflpjjhaaGreatZKer
import Derived.Test.YtjepiemflpjjhaaGreatZBoundary
import Derived.Test.YtjepiemflpjjhaaGreatZBasI
set_option maxHeartbeats 8000000
set_option maxRecDepth 100000
namespace Go.Proofs.YtjepiemflpjjhaaGreat
open Go.RowKit
noncomputable def cycOk (l : List (List Int)) (k : Int) : Bool := boundOk l k && kerOk (boundB l k)
noncomputable def cycB (l : List (List Int)) (k : Int) : Mat := if boundOk l k = true then kerB (boundB l k) else { rows := 0, cols := 0, cells := [] }
theorem cyc_no {l : List (List Int)} {k : Int} (h : boundOk l k = false) : cycOk l k = false ∧ cycB l k = { rows := 0, cols := 0, cells := [] } := by
 unfold cycOk cycB; rw [h]; exact ⟨rfl, rfl⟩
theorem cyc_yes {l : List (List Int)} {k : Int} (h : boundOk l k = true) : cycOk l k = kerOk (boundB l k) ∧ cycB l k = kerB (boundB l k) := by
 unfold cycOk cycB; rw [h]; exact ⟨rfl, rfl⟩
theorem implCyclesOf_v {S : Nat → Prop} {v : Value} {l : List (List Int)} {k : Int} {w : World} (h : VII w S v l) (hb : bdII l ≤ 1048576) (hk : I64 k) :
  Calls Tryz.prog 18 #[v, .int .i64 k] w fun e w' => ∃ r, e = .returned (.tuple #[r, .bool (cycOk l k)]) ∧ OM w' (New w w') r (cycB l k) ∧ Grow w w' := by
 have hG0 := (Grow.refl w).alloc #[.int .i64 0, .int .i64 0, .slice none 0 0] 40
 have bZ := Blk.new w #[.int .i64 0, .int .i64 0, .slice none 0 0] 40
 go_enter Tryz.func18, Tryz.ntmps18
 go_wp2_with fail
 refine (implBoundaryOf_v (h.grow hG0) hb hk).mono ?_
 rintro e w2 ⟨ra, rfl, hA, hG2⟩
 have hbd := boundB_bd l k
 have hVM := hA.rd (S := fun _ => True) fun _ _ => trivial
 obtain ⟨aa, an, ac, rfl, rA, iA1, iA2⟩ := hVM
 have hGa := (Grow.refl w2).alloc #[.int .i64 (boundB l k).rows, .int .i64 (boundB l k).cols, .slice aa an ac] 40
 have bA := Blk.new w2 #[.int .i64 (boundB l k).rows, .int .i64 (boundB l k).cols, .slice aa an ac] 40
 cases hok : boundOk l k with
 | false =>
  have Hz := Lib.hid (cyc_no (l := l) (k := k) hok)
  clear hA rA bA hok
  have bZ3 := (bZ.grow hG2).grow hGa
  obtain ⟨⟨z0, z1, z2⟩, g0, g1, g2⟩ := bZ3.three
  obtain ⟨⟨y0, y1, y2⟩, f0, f1, f2⟩ := (bZ.grow hG2).three
  have hlt := (bZ.grow hG2).lt
  have hne : w.heap.size ≠ w2.heap.size := by omega
  have h1 : w.heap.size ≤ w.heap.size := Nat.le_refl _
  go_wp2
  exact ret_cell_tmp T_mat rfl rfl rfl (((((bZ.grow hG2).set 0 _).set 1 _).set 2 _).alloc _) ⟨_, by rw [Hz.out.1]; rfl, by rw [Hz.out.2]; exact OM.zero, ((((hG0.trans hG2).setCell h1 _).setCell h1 _).setCell h1 _).alloc _ _⟩
 | true =>
  have Hy := Lib.hid (cyc_yes (l := l) (k := k) hok)
  obtain ⟨⟨a0, a1, a2⟩, -⟩ := bA.three
  have hVMa : VM _ _ _ (boundB l k) := ⟨aa, an, ac, rfl, rA.grow hGa, iA1, iA2⟩
  have bZ3 := (bZ.grow hG2).grow hGa
  have hlt := (bZ.grow hG2).lt
  have hGt := (hG0.trans hG2).trans hGa
  clear hA hok
  go_wp2_with fail
  refine (iKernelOf_c hVMa (by omega)).mono ?_
  rintro e w4 ⟨r, rfl, hR, hG4⟩
  obtain ⟨ra, rn, rc, rfl, oR, rR, fR, i1, i2⟩ := hR
  have bZ4 := bZ3.grow hG4
  have hs4 := hGt.size
  obtain ⟨⟨z0, z1, z2⟩, g0, g1, g2⟩ := bZ4.three
  have hKs : Keep (fun q => q ≠ w.heap.size) w4 (((w4.setCell ⟨w.heap.size, 0, none⟩ (.int .i64 (kerB (boundB l k)).rows)).setCell ⟨w.heap.size, 1, none⟩ (.int .i64 (kerB (boundB l k)).cols)).setCell ⟨w.heap.size, 2, none⟩ (.slice ra rn rc)) :=
   (((Keep.refl _ w4).setCell (fun _ e => e rfl) _).setCell (fun _ e => e rfl) _).setCell (fun _ e => e rfl) _
  have hof := oR.keep hKs (fun g hg _ e => by have := (fR g hg).1; have := bZ3.lt; omega)
  have hGf := (hGt.trans hG4).keep hKs (fun q hq => by omega)
  have hlt3 := bZ3.lt
  go_wp2
  refine ret_cell_tmp T_mat rfl rfl rfl (((bZ4.set 0 _).set 1 _).set 2 _) ⟨_, by rw [Hy.out.1]; rfl, by rw [Hy.out.2]; exact ⟨ra, rn, rc, rfl, hof, rR, fun g hg => ⟨by have := (fR g hg).1; omega, hof.lt hg⟩, i1, i2⟩, hGf⟩
end Go.Proofs.YtjepiemflpjjhaaGreat

namespace Go.Proofs.YtjepiemflpjjhaaGreat
open Go.RowKit
noncomputable def bndIs (l : List (List Int)) (k : Int) : Bool := boundOk l (wrap64 (k + 1)) && inB k 0 3
noncomputable def bndOk (l : List (List Int)) (k : Int) : Bool := bndIs l k && basOk (boundB l (wrap64 (k + 1)))
noncomputable def bndB (l : List (List Int)) (k : Int) : Mat := if bndIs l k = true then basB (boundB l (wrap64 (k + 1))) else { rows := 0, cols := 0, cells := [] }
theorem bnd_no {l : List (List Int)} {k : Int} (h : bndIs l k = false) : bndOk l k = false ∧ bndB l k = { rows := 0, cols := 0, cells := [] } := by
 unfold bndOk bndB; rw [h]; exact ⟨rfl, rfl⟩
theorem bnd_yes {l : List (List Int)} {k : Int} (h : bndIs l k = true) : bndOk l k = basOk (boundB l (wrap64 (k + 1))) ∧ bndB l k = basB (boundB l (wrap64 (k + 1))) := by
 unfold bndOk bndB; rw [h]; exact ⟨rfl, rfl⟩
theorem wrap_rng (n : Int) : I64 (wrap64 n) := by unfold wrap64 I64; omega
theorem implBoundsOf_v {S : Nat → Prop} {v : Value} {l : List (List Int)} {k : Int} {w : World} (h : VII w S v l) (hb : bdII l ≤ 1048576) (_hk : I64 k) :
  Calls Tryz.prog 19 #[v, .int .i64 k] w fun e w' => ∃ r, e = .returned (.tuple #[r, .bool (bndOk l k)]) ∧ OM w' (New w w') r (bndB l k) ∧ Grow w w' := by
 have hG0 := (Grow.refl w).alloc #[.int .i64 0, .int .i64 0, .slice none 0 0] 40
 have bZ := Blk.new w #[.int .i64 0, .int .i64 0, .slice none 0 0] 40
 have hkw := wrap_rng (k + 1)
 obtain ⟨kk, hkk⟩ : ∃ kk, kk = wrap64 (k + 1) := ⟨_, rfl⟩
 rw [← hkk] at hkw
 go_enter Tryz.func19, Tryz.ntmps19
 go_wp2_with fail
 rw [← hkk]
 have Hkk := Lib.hid hkk
 clear hkk
 refine (implBoundaryOf_v (h.grow hG0) hb hkw).mono ?_
 rintro e w2 ⟨ra, rfl, hA, hG2⟩
 have hbd := boundB_bd l kk
 have hVM := hA.rd (S := fun _ => True) fun _ _ => trivial
 obtain ⟨aa, an, ac, rfl, rA, iA1, iA2⟩ := hVM
 have hGa := (Grow.refl w2).alloc #[.int .i64 (boundB l kk).rows, .int .i64 (boundB l kk).cols, .slice aa an ac] 40
 have bA := Blk.new w2 #[.int .i64 (boundB l kk).rows, .int .i64 (boundB l kk).cols, .slice aa an ac] 40
 cases hok : boundOk l kk with
 | false =>
  have Hz := Lib.hid (bnd_no (l := l) (k := k) (by unfold bndIs; rw [← Hkk.out, hok]; rfl))
  clear hA rA bA
  have bZ3 := (bZ.grow hG2).grow hGa
  obtain ⟨⟨z0, z1, z2⟩, g0, g1, g2⟩ := bZ3.three
  obtain ⟨⟨y0, y1, y2⟩, f0, f1, f2⟩ := (bZ.grow hG2).three
  have hlt := (bZ.grow hG2).lt
  have hne : w.heap.size ≠ w2.heap.size := by omega
  have h1 : w.heap.size ≤ w.heap.size := Nat.le_refl _
  go_wp2
  exact ret_cell_tmp T_mat rfl rfl rfl (((((bZ.grow hG2).set 0 _).set 1 _).set 2 _).alloc _) ⟨_, by rw [Hz.out.1]; rfl, by rw [Hz.out.2]; exact OM.zero, ((((hG0.trans hG2).setCell h1 _).setCell h1 _).setCell h1 _).alloc _ _⟩
 | true =>
  by_cases h0 : k < 0
  ·have Hz := Lib.hid (bnd_no (l := l) (k := k) (by unfold bndIs; rw [inB_no (by omega), Bool.and_false]))
   clear hA rA bA
   have bZ3 := (bZ.grow hG2).grow hGa
   obtain ⟨⟨z0, z1, z2⟩, g0, g1, g2⟩ := bZ3.three
   obtain ⟨⟨y0, y1, y2⟩, f0, f1, f2⟩ := (bZ.grow hG2).three
   have hlt := (bZ.grow hG2).lt
   have hne : w.heap.size ≠ w2.heap.size := by omega
   have h1 : w.heap.size ≤ w.heap.size := Nat.le_refl _
   go_wp2
   exact ret_cell_tmp T_mat rfl rfl rfl (((((bZ.grow hG2).set 0 _).set 1 _).set 2 _).alloc _) ⟨_, by rw [Hz.out.1]; rfl, by rw [Hz.out.2]; exact OM.zero, ((((hG0.trans hG2).setCell h1 _).setCell h1 _).setCell h1 _).alloc _ _⟩
  ·by_cases h3 : 3 < k
   ·have Hz := Lib.hid (bnd_no (l := l) (k := k) (by unfold bndIs; rw [inB_no (by omega), Bool.and_false]))
    clear hA rA bA
    have bZ3 := (bZ.grow hG2).grow hGa
    obtain ⟨⟨z0, z1, z2⟩, g0, g1, g2⟩ := bZ3.three
    obtain ⟨⟨y0, y1, y2⟩, f0, f1, f2⟩ := (bZ.grow hG2).three
    have hlt := (bZ.grow hG2).lt
    have hne : w.heap.size ≠ w2.heap.size := by omega
    have h1 : w.heap.size ≤ w.heap.size := Nat.le_refl _
    go_wp2
    exact ret_cell_tmp T_mat rfl rfl rfl (((((bZ.grow hG2).set 0 _).set 1 _).set 2 _).alloc _) ⟨_, by rw [Hz.out.1]; rfl, by rw [Hz.out.2]; exact OM.zero, ((((hG0.trans hG2).setCell h1 _).setCell h1 _).setCell h1 _).alloc _ _⟩
   ·have Hy := Lib.hid (bnd_yes (l := l) (k := k) (by unfold bndIs; rw [← Hkk.out, hok, inB_iff.2 ⟨by omega, by omega⟩]; rfl))
    obtain ⟨⟨a0, a1, a2⟩, -⟩ := bA.three
    have hVMa : VM _ _ _ (boundB l kk) := ⟨aa, an, ac, rfl, rA.grow hGa, iA1, iA2⟩
    have bZ3 := (bZ.grow hG2).grow hGa
    have hlt := (bZ.grow hG2).lt
    have hGt := (hG0.trans hG2).trans hGa
    clear hA
    go_wp2_with fail
    refine (iBasisOf_c hVMa (by omega)).mono ?_
    rintro e w4 ⟨r, rfl, hR, hG4⟩
    obtain ⟨ra, rn, rc, rfl, oR, rR, fR, i1, i2⟩ := hR
    have bZ4 := bZ3.grow hG4
    have hs4 := hGt.size
    obtain ⟨⟨z0, z1, z2⟩, g0, g1, g2⟩ := bZ4.three
    have hKs : Keep (fun q => q ≠ w.heap.size) w4 (((w4.setCell ⟨w.heap.size, 0, none⟩ (.int .i64 (basB (boundB l kk)).rows)).setCell ⟨w.heap.size, 1, none⟩ (.int .i64 (basB (boundB l kk)).cols)).setCell ⟨w.heap.size, 2, none⟩ (.slice ra rn rc)) :=
     (((Keep.refl _ w4).setCell (fun _ e => e rfl) _).setCell (fun _ e => e rfl) _).setCell (fun _ e => e rfl) _
    have hof := oR.keep hKs (fun g hg _ e => by have := (fR g hg).1; have := bZ3.lt; omega)
    have hGf := (hGt.trans hG4).keep hKs (fun q hq => by omega)
    have hlt3 := bZ3.lt
    go_wp2
    refine ret_cell_tmp T_mat rfl rfl rfl (((bZ4.set 0 _).set 1 _).set 2 _) ⟨_, by rw [Hy.out.1, ← Hkk.out]; rfl, by rw [Hy.out.2, ← Hkk.out]; exact ⟨ra, rn, rc, rfl, hof, rR, fun g hg => ⟨by have := (fR g hg).1; omega, hof.lt hg⟩, i1, i2⟩, hGf⟩
end Go.Proofs.YtjepiemflpjjhaaGreat
