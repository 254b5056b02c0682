/-
  KernelOf: the program's and the reference's.
-/
import Derived.Test.YtgeoehnbpkediaaZBasI
import Derived.Test.YtgeoehnbpkediaaZBase
set_option maxHeartbeats 8000000
set_option maxRecDepth 100000
namespace Go.Proofs.Ytgeoehnbpkediaa
open Go.RowKit
def kernM (s : HS) (C R : Nat) : Mat := { rows := ((R - lastN s.1 C R : Nat) : Int), cols := (R : Int), cells := s.2.drop (lastN s.1 C R * R) }
def kerOk (m : Mat) : Bool := match hermR m with
 | some s => basOk (kernM s m.cols.toNat m.rows.toNat)
 | none => false
def kerB (m : Mat) : Mat := match hermR m with
 | some s => basB (kernM s m.cols.toNat m.rows.toNat)
 | none => { rows := 0, cols := 0, cells := [] }
theorem kerB_none {m : Mat} (h : hermR m = none) : kerOk m = false ∧ kerB m = { rows := 0, cols := 0, cells := [] } := by
 unfold kerOk kerB; rw [h]; exact ⟨rfl, rfl⟩
theorem kerB_some {R C : Nat} {cells : List Int} {s : HS} (hB : isMatB { rows := (R : Int), cols := (C : Int), cells := cells } = true) (h : herm cells R C = some s) :
  kerOk { rows := (R : Int), cols := (C : Int), cells := cells } = basOk (kernM s C R) ∧ kerB { rows := (R : Int), cols := (C : Int), cells := cells } = basB (kernM s C R) := by
 have h1 := hermR_mat hB
 rw [h] at h1
 unfold kerOk kerB; rw [h1]; exact ⟨rfl, rfl⟩
theorem ech_zeros {C R : Nat} {m : List Int} {t : Nat} (h : Ech C R m C t) (ht : t ≤ R) : ((List.range R).filter fun i => !nzB m C i) = List.range' t (R - t) := by
 have e : List.range R = List.range t ++ List.range' t (R - t) := by
  rw [List.range_eq_range', List.range_eq_range']
  have := List.range'_append (s := 0) (m := t) (n := R - t) (step := 1)
  simp at this
  rw [this]; congr 1; omega
 rw [e, List.filter_append]
 have h1 : ((List.range t).filter fun i => !nzB m C i) = [] := List.filter_eq_nil_iff.2 fun i hi hz => by
  rw [nzB_iff.2 (h.full i (List.mem_range.1 hi))] at hz; cases hz
 have h2 : ((List.range' t (R - t)).filter fun i => !nzB m C i) = List.range' t (R - t) := List.filter_eq_self.2 fun i hi => by
  rw [List.mem_range'_1] at hi
  cases hz : nzB m C i with
  | false => rfl
  | true =>
   obtain ⟨k, hk, hne⟩ := nzB_iff.1 hz
   exact (hne (h.zero i (by omega) (by omega) k hk)).elim
 rw [h1, h2, List.nil_append]
theorem flat_tail {m : List Int} {C : Nat} : ∀ {n t : Nat}, m.length = (t + n) * C → ((List.range' t n).map (rowL m C)).flatten = m.drop (t * C)
 | 0, t, h => by
  rw [Nat.add_zero] at h
  simp [← h]
 | n + 1, t, h => by
  rw [List.range'_succ, List.map_cons, List.flatten_cons, flat_tail (by rw [h]; congr 1; omega)]
  unfold rowL
  rw [Nat.add_mul, Nat.one_mul, ← List.drop_drop, List.take_append_drop]
theorem herm_tail {cells : List Int} {R C : Nat} (hl : cells.length = R * C) (hm : NumL cells) {s : HS} (h : herm cells R C = some s) :
  ((List.range R).filter fun i => !nzB s.1 C i) = List.range' (lastN s.1 C R) (R - lastN s.1 C R) ∧ ((List.range' (lastN s.1 C R) (R - lastN s.1 C R)).map (rowL s.2 R)).flatten = s.2.drop (lastN s.1 C R * R) := by
 obtain ⟨hs, t, ht, hE⟩ := herm_spec hl hm h
 have e := ech_last hE R (Nat.le_refl _) ht
 rw [e]
 exact ⟨ech_zeros hE ht, flat_tail (by rw [hs.lu]; congr 1; omega)⟩
theorem iKernel_no {S : Nat → Prop} {m : Mat} {w : World} {a : Option Addr} {n c : Nat} {mr mc : Int} (hVM : VM w S (.agg #[.int .i64 mr, .int .i64 mc, .slice a n c]) m) (hb : bdM m ≤ 1048576) (hB : isMatB m = false) :
  Calls Try.prog 44 #[.agg #[.int .i64 mr, .int .i64 mc, .slice a n c]] w fun e w' => ∃ r, e = .returned (.tuple #[r, .bool (kerOk m)]) ∧ OM w' (New w w') r (kerB m) ∧ Grow w w' := by
 have Hz := Lib.hid (kerB_none (m := m) (by unfold hermR; rw [hB]; rfl))
 obtain ⟨w3, hw3⟩ : ∃ w3, w3 = (w.alloc (.cells #[.int .i64 mr, .int .i64 mc, .slice a n c] 28)).alloc (.cells #[.int .i64 0, .int .i64 0, .slice none 0 0] 28) := ⟨_, rfl⟩
 have hG : Grow w w3 := by rw [hw3]; exact ((Grow.refl w).alloc _ _).alloc _ _
 have bR : Blk w3 (w.heap.size + 1) #[.int .i64 0, .int .i64 0, .slice none 0 0] 28 := by rw [hw3]; exact Blk.newAt _ _ _ (by simp)
 have Hw3 := Lib.hid hw3; clear hw3
 go_enter Try.func44, Try.ntmps44
 go_wp2_with fail
 rw [← Hw3.out]
 refine (iHermite_no (hVM.grow hG) hb hB).mono ?_
 rintro e w4 ⟨rfl, hG4⟩
 have hZ1 := ((Grow.refl w4).alloc #[.int .i64 0, .int .i64 0, .slice none 0 0] 28).alloc #[.int .i64 0, .int .i64 0, .slice none 0 0] 28
 have bR5 := (bR.grow hG4).grow hZ1
 have hltR : w.heap.size + 1 < w4.heap.size := (bR.grow hG4).lt
 have hG5 := (hG.trans hG4).trans hZ1
 obtain ⟨⟨a0, a1, a2⟩, f0, f1, f2⟩ := bR5.three
 have h1 : w.heap.size ≤ w.heap.size + 1 := by omega
 go_wp2
 exact ret_cell_tmp T_mat rfl rfl rfl (((bR5.set 0 _).set 1 _).set 2 _) ⟨_, by rw [Hz.out.1]; rfl, by rw [Hz.out.2]; exact OM.zero, ((hG5.setCell h1 _).setCell h1 _).setCell h1 _⟩
theorem iKernel_yes {S : Nat → Prop} {w : World} {a : Option Addr} {n c R C : Nat} {cells : List Int} (h : RdI w S a n c cells) (hl : cells.length = R * C) (hnum : NumL cells) (hR : R ≤ 24) (hC : C ≤ 24) :
  Calls Try.prog 44 #[.agg #[.int .i64 R, .int .i64 C, .slice a n c]] w fun e w' => ∃ r, e = .returned (.tuple #[r, .bool (kerOk { rows := (R : Int), cols := (C : Int), cells := cells })]) ∧ OM w' (New w w') r (kerB { rows := (R : Int), cols := (C : Int), cells := cells }) ∧ Grow w w' := by
 have hB := isMatB_ok hR hC hl hnum
 obtain ⟨mr, hmr⟩ : ∃ mr : Int, mr = R := ⟨_, rfl⟩
 obtain ⟨mc, hmc⟩ : ∃ mc : Int, mc = C := ⟨_, rfl⟩
 have hb1 := fun s => kerB_some (s := s) hB
 have hb2 := fun hn : herm cells R C = none => kerB_none (m := { rows := (R : Int), cols := (C : Int), cells := cells }) (by rw [hermR_mat hB]; exact hn)
 have Hb1 := Lib.hid hb1; have Hb2 := Lib.hid hb2
 clear hb1 hb2 hB
 generalize hM : ({ rows := (R : Int), cols := (C : Int), cells := cells } : Mat) = M at *
 clear hM
 rw [← hmr, ← hmc]
 obtain ⟨w3, hw3⟩ : ∃ w3, w3 = (w.alloc (.cells #[.int .i64 mr, .int .i64 mc, .slice a n c] 28)).alloc (.cells #[.int .i64 0, .int .i64 0, .slice none 0 0] 28) := ⟨_, rfl⟩
 have hG : Grow w w3 := by rw [hw3]; exact ((Grow.refl w).alloc _ _).alloc _ _
 have bR : Blk w3 (w.heap.size + 1) #[.int .i64 0, .int .i64 0, .slice none 0 0] 28 := by rw [hw3]; exact Blk.newAt _ _ _ (by simp)
 have Hw3 := Lib.hid hw3; clear hw3
 subst hmr
 subst hmc
 go_enter Try.func44, Try.ntmps44
 go_wp2_with fail
 rw [← Hw3.out]
 refine (iHermite_yes (h.grow hG) hl hnum hR hC).mono ?_
 rintro e w4 ⟨hG4, (⟨hn, rfl⟩ | ⟨s, aa, ca, au, cu, hs, rfl, rA, rU⟩)⟩
 ·have Hz := Lib.hid (Hb2.out hn)
  clear hn
  have hZ1 := ((Grow.refl w4).alloc #[.int .i64 0, .int .i64 0, .slice none 0 0] 28).alloc #[.int .i64 0, .int .i64 0, .slice none 0 0] 28
  have bR5 := (bR.grow hG4).grow hZ1
  have hltR : w.heap.size + 1 < w4.heap.size := (bR.grow hG4).lt
  have hG5 := (hG.trans hG4).trans hZ1
  obtain ⟨⟨a0, a1, a2⟩, f0, f1, f2⟩ := bR5.three
  have h1 : w.heap.size ≤ w.heap.size + 1 := by omega
  go_wp2
  exact ret_cell_tmp T_mat rfl rfl rfl (((bR5.set 0 _).set 1 _).set 2 _) ⟨_, by rw [Hz.out.1]; rfl, by rw [Hz.out.2]; exact OM.zero, ((hG5.setCell h1 _).setCell h1 _).setCell h1 _⟩
 ·have Hy := Lib.hid (Hb1.out s hs)
  have hsp := (herm_spec hl hnum hs).1
  have htR : lastN s.1 C R ≤ R := lastN_le _ _ _
  obtain ⟨hf1, hf2⟩ := herm_tail hl hnum hs
  have hltR : w.heap.size + 1 < w4.heap.size := (bR.grow hG4).lt
  obtain ⟨w5, hw5⟩ : ∃ w5, w5 = (w4.alloc (.cells #[.int .i64 (R : Int), .int .i64 (C : Int), .slice aa (R * C) ca] 28)).alloc (.cells #[.int .i64 (R : Int), .int .i64 (R : Int), .slice au (R * R) cu] 28) := ⟨_, rfl⟩
  have hG5 : Grow w4 w5 := by rw [hw5]; exact ((Grow.refl w4).alloc _ _).alloc _ _
  have bH : Blk w5 w4.heap.size #[.int .i64 (R : Int), .int .i64 (C : Int), .slice aa (R * C) ca] 28 := by rw [hw5]; exact (Blk.new w4 _ _).alloc _
  have bV : Blk w5 (w4.heap.size + 1) #[.int .i64 (R : Int), .int .i64 (R : Int), .slice au (R * R) cu] 28 := by rw [hw5]; exact Blk.newAt _ _ _ (by simp)
  obtain ⟨⟨a0, a1, a2⟩, -⟩ := bH.three
  rw [hw5] at a0 a1 a2
  have Hw5 := Lib.hid hw5; clear hw5
  have rA5 := rA.grow hG5
  have rU5 := rU.grow hG5
  have bR5 := (bR.grow hG4).grow hG5
  clear rA rU hs
  go_wp2_with fail
  rw [← Hw5.out]
  refine (splitRows_c aa _ ca C R s.1 _ rA5 hsp.la hR hC).mono ?_
  rintro e w6 ⟨a1', a2', n1, n2, c1, c2, rfl, hP, hG6⟩
  rw [hf1] at hP
  have hkm : kernM s C R = { rows := ((R - lastN s.1 C R : Nat) : Int), cols := (R : Int), cells := s.2.drop (lastN s.1 C R * R) } := rfl
  rw [hkm] at Hy
  clear hkm
  generalize lastN s.1 C R = t at *
  have rI := hP.ou.rdI (S := fun _ => True) (fun _ _ => trivial) (natI_rng (l := List.range' t (R - t)) (fun x hx => by rw [List.mem_range'_1] at hx; omega))
  have Hn2 := Lib.hid (show n2 = R - t by have := rI.len; unfold natI at this; simpa using this.symm)
  have bV6 := bV.grow hG6
  obtain ⟨⟨a0, a1, a2⟩, -⟩ := bV6.three
  have rU6 := rU5.grow hG6
  have bR6 := bR5.grow hG6
  have hGt := ((hG.trans hG4).trans hG5).trans hG6
  clear hP hf1
  have hlt6 : w.heap.size + 1 < w6.heap.size := bR6.lt
  go_wp2_with fail
  refine (takeRows_c au a2' _ cu n2 c2 R R s.2 (List.range' t (R - t)) _ rU6 hsp.lu hR hR rI (fun x hx => by rw [List.mem_range'_1] at hx; omega) (by simp; omega)).mono ?_
  rintro e w7 ⟨a', c', rfl, hO7, hlo7, hG7⟩
  rw [hf2] at hO7
  rw [← Hn2.out] at Hy
  have hn24 : n2 ≤ 24 := by have := Hn2.out; omega
  have hRR : R * R ≤ 24 * 24 := Nat.mul_le_mul hR hR
  have hnr : NumL (s.2.drop (t * R)) := fun x hx => hsp.nu x (List.mem_of_mem_drop hx)
  have vK : VM w7 (fun _ => True) (.agg #[.int .i64 (n2 : Int), .int .i64 (R : Int), .slice a' (n2 * R) c']) { rows := (n2 : Int), cols := (R : Int), cells := s.2.drop (t * R) } :=
   ⟨a', _, c', rfl, hO7.rdI (fun _ _ => trivial) (num_rng hnr), by show I64 (n2 : Int); unfold I64; omega, by show I64 (R : Int); unfold I64; omega⟩
  go_wp2_with fail
  refine (iBasisOf_c vK (by unfold bdM; simp only [List.length_drop]; rw [hsp.lu]; omega)).mono ?_
  rintro e w8 ⟨r, rfl, hRes, hG8⟩
  obtain ⟨ra, rn, rc, rfl, oR, rR, fR, i1, i2⟩ := hRes
  generalize hbm : basB { rows := (n2 : Int), cols := (R : Int), cells := s.2.drop (t * R) } = BM at *
  clear hbm
  have bR8 := (bR6.grow hG7).grow hG8
  have hs7 := hG7.size
  have hs6 := hGt.size
  obtain ⟨⟨b0, b1, b2⟩, f0, f1, f2⟩ := bR8.three
  have hK9 : Keep (fun q => q ≠ w.heap.size + 1) w8 (((w8.setCell ⟨w.heap.size + 1, 0, none⟩ (.int .i64 BM.rows)).setCell ⟨w.heap.size + 1, 1, none⟩ (.int .i64 BM.cols)).setCell ⟨w.heap.size + 1, 2, none⟩ (.slice ra rn rc)) :=
   (((Keep.refl _ w8).setCell (fun _ e => e rfl) _).setCell (fun _ e => e rfl) _).setCell (fun _ e => e rfl) _
  have hof := oR.keep hK9 (fun g hg _ e => by have := (fR g hg).1; omega)
  have hBf := ((bR8.set 0 (.int .i64 BM.rows)).set 1 (.int .i64 BM.cols)).set 2 (.slice ra rn rc)
  have hGf := ((hGt.trans hG7).trans hG8).keep hK9 fun q hq => by omega
  go_wp2
  refine ret_cell_tmp T_mat rfl rfl rfl hBf ⟨_, by rw [Hy.out.1]; rfl, by rw [Hy.out.2]; exact ⟨ra, rn, rc, rfl, hof, rR, fun g hg => ⟨by have := (fR g hg).1; omega, hof.lt hg⟩, i1, i2⟩, hGf⟩
theorem iKernelOf_c {S : Nat → Prop} {v : Value} {m : Mat} {w : World} (h : VM w S v m) (hb : bdM m ≤ 1048576) :
  Calls Try.prog 44 #[v] w fun e w' => ∃ r, e = .returned (.tuple #[r, .bool (kerOk m)]) ∧ OM w' (New w w') r (kerB m) ∧ Grow w w' := by
 have hVM := h
 obtain ⟨a, n, c, rfl, h, hr, hc⟩ := h
 cases hB : isMatB m with
 | false => exact iKernel_no hVM hb hB
 | true =>
  obtain ⟨R, C, hmr, hmc, hR, hC, hl, hnum⟩ := isMatB_shape hB
  obtain ⟨mr, mc, cells⟩ := m
  simp only at hmr hmc hl hnum
  subst hmr
  subst hmc
  exact iKernel_yes h hl hnum hR hC
end Go.Proofs.Ytgeoehnbpkediaa

namespace Go.Proofs.Ytgeoehnbpkediaa
open Go.RowKit
def KerPost (z N : Nat) (L : List Int) (x y : Int) (BM : Mat) (bo : Bool) : Nat → Value → World → Prop
 | 6, u, w => ∃ g, u = .slice (some ⟨g, 0, none⟩) 0 0 ∧ Own w 3 1 (some ⟨g, 0, none⟩) 0 0 []
 | 14, u, w => ∃ g c, u = .slice (some ⟨g, 0, none⟩) N c ∧ Own w 3 1 (some ⟨g, 0, none⟩) N c (ints L)
 | 15, u, w => ∃ g c, u = .agg #[.int .i64 x, .int .i64 y, .slice (some ⟨g, 0, none⟩) N c] ∧ Own w 3 1 (some ⟨g, 0, none⟩) N c (ints L)
 | 16, u, w => ∃ r, u = .tuple #[r, .bool bo] ∧ OM w (fun g => z ≤ g) r BM
 | 17, u, w => ∃ r, u = .tuple #[r, .bool bo] ∧ OM w (fun g => z ≤ g) r BM
 | 18, u, w => OM w (fun g => z ≤ g) u BM
 | 19, u, _ => u = .bool bo
 | 20, u, w => ∃ g, u = .pointer (some ⟨g, 0, none⟩) ∧ z ≤ g ∧ Blk w g #[.int .i64 0, .int .i64 0, .slice none 0 0] 28
 | _, _, _ => True
theorem KerPost.stays {z N : Nat} {L : List Int} {x y : Int} {BM : Mat} {bo : Bool} : ∀ i u w w', Grow w w' → KerPost z N L x y BM bo i u w → KerPost z N L x y BM bo i u w' := fun i u w w' hG h => by
 unfold KerPost at *
 split at h
 ·obtain ⟨g, h1, h2⟩ := h; exact ⟨g, h1, h2.grow hG⟩
 ·obtain ⟨g, c, h1, h2⟩ := h; exact ⟨g, c, h1, h2.grow hG⟩
 ·obtain ⟨g, c, h1, h2⟩ := h; exact ⟨g, c, h1, h2.grow hG⟩
 ·obtain ⟨r, h1, h2⟩ := h; exact ⟨r, h1, h2.grow hG⟩
 ·obtain ⟨r, h1, h2⟩ := h; exact ⟨r, h1, h2.grow hG⟩
 ·exact h.grow hG
 ·exact h
 ·obtain ⟨g, h1, h2, h3⟩ := h; exact ⟨g, h1, h2, h3.grow hG⟩
 ·trivial
end Go.Proofs.Ytgeoehnbpkediaa
