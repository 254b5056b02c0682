/-
  What an operation of a definition makes: a plain function, as the program and the reference both do it.
-/
import Derived.Test.YtgeoehnbpkediaaZAddM
import Derived.Test.YtgeoehnbpkediaaZRedP
import Derived.Test.YtgeoehnbpkediaaZSmith
import Derived.Test.YtgeoehnbpkediaaZDetI
import Derived.Test.YtgeoehnbpkediaaZKer
import Derived.Test.YtgeoehnbpkediaaZRedI
import Derived.Test.YtgeoehnbpkediaaZDef
import Derived.Test.YtgeoehnbpkediaaZStack
set_option maxHeartbeats 8000000
set_option maxRecDepth 100000
namespace Go.Proofs.Ytgeoehnbpkediaa
def hrmF (m : Mat) : Option Mat := if isMatB m = true then (herm m.cells m.rows.toNat m.cols.toNat).map fun s => { rows := m.rows, cols := m.cols, cells := s.1 } else none
def smiF (m : Mat) : Option Mat := if isMatB m = true then (smith m.cells m.rows.toNat m.cols.toNat).map fun s => { rows := m.rows, cols := m.cols, cells := s.1 } else none
def okF (b : Bool) (m : Mat) : Option Mat := if b = true then some m else none
def opF (op : Int) (a b : Mat) : Option Mat :=
 if op = 1 then okF (amOk a b) (amB a b)
 else if op = 2 then okF (mulOk a b) (mulB a b)
 else if op = 3 then okF (isMatB a) (trB a)
 else if op = 4 then okF (dtOk a) { rows := 1, cols := 1, cells := [dtV a] }
 else if op = 5 then hrmF a
 else if op = 6 then smiF a
 else if op = 7 then okF (kerOk a) (kerB a)
 else if op = 8 then okF (gramOk a) (gramB a)
 else okF (redBOk a) (redBB a)
theorem okF_is (b : Bool) (m : Mat) : (okF b m).isSome = b := by unfold okF; cases b <;> rfl
theorem okF_of {b : Bool} {m x : Mat} (h : okF b m = some x) : x = m := by unfold okF at h; split at h; exact (Option.some.inj h).symm; cases h
end Go.Proofs.Ytgeoehnbpkediaa

namespace Go.Proofs.Ytgeoehnbpkediaa
open Go.RowKit
theorem iHerm_o {S : Nat → Prop} {v : Value} {m : Mat} {w : World} (h : VM w S v m) (hb : bdM m ≤ 1048576) :
  Calls Try.prog 42 #[v] w fun e w' => ∃ x1 x2 x3 x4 x5 y1 y2 y3 y4 y5, e = .returned (.tuple #[.agg #[.int .i64 x1, .int .i64 x2, .slice x3 x4 x5], .agg #[.int .i64 y1, .int .i64 y2, .slice y3 y4 y5], .bool (hrmF m).isSome]) ∧ (∀ r, hrmF m = some r → OM w' (fun q => w.heap.size ≤ q) (.agg #[.int .i64 x1, .int .i64 x2, .slice x3 x4 x5]) r) ∧ Grow w w' := by
 have hV := h
 obtain ⟨a, n, c, rfl, h, ir, ic⟩ := h
 cases hB : isMatB m with
 | false =>
  refine (iHermite_no hV hb hB).mono ?_
  rintro e w' ⟨rfl, hG⟩
  have hn : hrmF m = none := by unfold hrmF; rw [hB]; rfl
  exact ⟨_, _, _, _, _, _, _, _, _, _, by rw [hn]; rfl, (fun s hs => by rw [hn] at hs; cases hs), hG⟩
 | true =>
  obtain ⟨R, C, hmr, hmc, hR, hC, hl, hnum⟩ := isMatB_shape hB
  have hE : hrmF m = (herm m.cells R C).map fun s => { rows := m.rows, cols := m.cols, cells := s.1 } := by unfold hrmF; rw [if_pos hB, hmr, hmc, Int.toNat_natCast, Int.toNat_natCast]
  obtain ⟨mr, mc, cells⟩ := m
  simp only at hmr hmc hl hnum h hE ir ic
  subst hmr
  subst hmc
  refine (iHermite_own h hl hnum hR hC).mono ?_
  rintro e w' ⟨hG, hr⟩
  rw [hE]
  rcases hr with ⟨hn, rfl⟩ | ⟨s, aa, ca, au, cu, hn, rfl, ⟨h1, h1b, h1c⟩, h2⟩
  ·exact ⟨_, _, _, _, _, _, _, _, _, _, by rw [hn]; rfl, (fun s hs => by rw [hn] at hs; cases hs), hG⟩
  ·refine ⟨_, _, _, _, _, _, _, _, _, _, by rw [hn]; rfl, fun s' hs => ?_, hG⟩
   rw [hn] at hs
   obtain rfl := Option.some.inj hs
   exact ⟨aa, _, ca, rfl, h1, num_rng h1c, h1b, ir, ic⟩
theorem iSmith_o {S : Nat → Prop} {v : Value} {m : Mat} {w : World} (h : VM w S v m) (hb : bdM m ≤ 1048576) :
  Calls Try.prog 43 #[v] w fun e w' => ∃ x1 x2 x3 x4 x5 y1 y2 y3 y4 y5 z1 z2 z3 z4 z5, e = .returned (.tuple #[.agg #[.int .i64 x1, .int .i64 x2, .slice x3 x4 x5], .agg #[.int .i64 y1, .int .i64 y2, .slice y3 y4 y5], .agg #[.int .i64 z1, .int .i64 z2, .slice z3 z4 z5], .bool (smiF m).isSome]) ∧ (∀ r, smiF m = some r → OM w' (fun q => w.heap.size ≤ q) (.agg #[.int .i64 x1, .int .i64 x2, .slice x3 x4 x5]) r) ∧ Grow w w' := by
 have hV := h
 obtain ⟨a, n, c, rfl, h, ir, ic⟩ := h
 cases hB : isMatB m with
 | false =>
  refine (iSmith_no hV hb hB).mono ?_
  rintro e w' ⟨rfl, hG⟩
  have hn : smiF m = none := by unfold smiF; rw [hB]; rfl
  exact ⟨_, _, _, _, _, _, _, _, _, _, _, _, _, _, _, by rw [hn]; rfl, (fun s hs => by rw [hn] at hs; cases hs), hG⟩
 | true =>
  obtain ⟨R, C, hmr, hmc, hR, hC, hl, hnum⟩ := isMatB_shape hB
  have hE : smiF m = (smith m.cells R C).map fun s => { rows := m.rows, cols := m.cols, cells := s.1 } := by unfold smiF; rw [if_pos hB, hmr, hmc, Int.toNat_natCast, Int.toNat_natCast]
  obtain ⟨mr, mc, cells⟩ := m
  simp only at hmr hmc hl hnum h hE ir ic
  subst hmr
  subst hmc
  refine (iSmith_own h hl hnum hR hC).mono ?_
  rintro e w' ⟨hG, hr⟩
  rw [hE]
  rcases hr with ⟨hn, rfl⟩ | ⟨s, aa, ca, ub, un, uc, vb, vn, vc, hn, rfl, ⟨h1, h1b, h1c⟩⟩
  ·exact ⟨_, _, _, _, _, _, _, _, _, _, _, _, _, _, _, by rw [hn]; rfl, (fun s hs => by rw [hn] at hs; cases hs), hG⟩
  ·refine ⟨_, _, _, _, _, _, _, _, _, _, _, _, _, _, _, by rw [hn]; rfl, fun s' hs => ?_, hG⟩
   rw [hn] at hs
   obtain rfl := Option.some.inj hs
   exact ⟨aa, _, ca, rfl, h1, num_rng h1c, h1b, ir, ic⟩
theorem iRed_o {S : Nat → Prop} {v : Value} {m : Mat} {w : World} (h : VM w S v m) (hb : bdM m ≤ 1048576) :
  Calls Try.prog 46 #[v] w fun e w' => ∃ x1 x2 x3 x4 x5 y1 y2 y3 y4 y5, e = .returned (.tuple #[.agg #[.int .i64 x1, .int .i64 x2, .slice x3 x4 x5], .agg #[.int .i64 y1, .int .i64 y2, .slice y3 y4 y5], .bool (okF (redBOk m) (redBB m)).isSome]) ∧ (∀ r, okF (redBOk m) (redBB m) = some r → OM w' (fun q => w.heap.size ≤ q) (.agg #[.int .i64 x1, .int .i64 x2, .slice x3 x4 x5]) r) ∧ Grow w w' := by
 refine (iRedB_c h hb).mono ?_
 rintro e w' ⟨rv, y1, y2, y3, y4, y5, rfl, ⟨ra, rn, rc, rfl, oR, rR, fR, i1, i2⟩, hG⟩
 exact ⟨_, _, _, _, _, _, _, _, _, _, by rw [okF_is], fun r hr => by rw [okF_of hr]; exact ⟨ra, rn, rc, rfl, oR, rR, fun g hg => (fR g hg).1, i1, i2⟩, hG⟩
theorem dtV_rng (m : Mat) : I64 (dtV m) := by
 unfold dtV I64
 split
 ·cases h : detN m.rows.toNat m.cells with
  | none => simp
  | some d => have := detN_num h; simp only [Option.getD_some]; omega
 ·omega
def OpPost (r : Option Mat) (w : World) (e : Ending) (w' : World) : Prop := ∃ x y a n c, e = .returned (.tuple #[.agg #[.int .i64 x, .int .i64 y, .slice a n c], .bool r.isSome]) ∧ (∀ m, r = some m → OM w' (fun q => w.heap.size ≤ q) (.agg #[.int .i64 x, .int .i64 y, .slice a n c]) m) ∧ Grow w w'
theorem iOperate_c {S T U : Nat → Prop} {dv u v : Value} {d : Dfn} {A B : Mat} {w : World} (hd : VD w U dv d) (h : VM w S u A) (h' : VM w T v B) (hb : bdM A ≤ 1048576) (hb' : bdM B ≤ 1048576) :
  Calls Try.prog 24 #[dv, u, v] w (OpPost (opF d.op A B) w) := by
 have vA := h
 have vB := h'
 obtain ⟨da, dn, dc, rfl, -⟩ := hd
 obtain ⟨aa, na, ca, rfl, -⟩ := h
 obtain ⟨ab, nb, cb, rfl, -⟩ := h'
 obtain ⟨w1, hw1⟩ : ∃ z, z = (((w.alloc (.cells #[.string d.name, .int .i64 d.op, .string d.a, .string d.b, .int .i64 d.value.rows, .int .i64 d.value.cols, .slice da dn dc] 30)).alloc (.cells #[.int .i64 A.rows, .int .i64 A.cols, .slice aa na ca] 28)).alloc (.cells #[.int .i64 B.rows, .int .i64 B.cols, .slice ab nb cb] 28)).alloc (.cells #[.int .i64 0, .int .i64 0, .slice none 0 0] 28) := ⟨_, rfl⟩
 have hG : Grow w w1 := by rw [hw1]; exact ((((Grow.refl w).alloc _ _).alloc _ _).alloc _ _).alloc _ _
 have bA : Blk w1 (w.heap.size + 1) #[.int .i64 A.rows, .int .i64 A.cols, .slice aa na ca] 28 := by rw [hw1]; exact ((Blk.newAt _ _ _ (by simp)).alloc _).alloc _
 have bB : Blk w1 (w.heap.size + 1 + 1) #[.int .i64 B.rows, .int .i64 B.cols, .slice ab nb cb] 28 := by rw [hw1]; exact (Blk.newAt _ _ _ (by simp)).alloc _
 have bZ : Blk w1 (w.heap.size + 1 + 1 + 1) #[.int .i64 0, .int .i64 0, .slice none 0 0] 28 := by rw [hw1]; exact Blk.newAt _ _ _ (by simp)
 have Hw1 := Lib.hid hw1
 have HR := Lib.hid (show opF d.op A B = opF d.op A B from rfl)
 replace vA := vA.grow hG
 replace vB := vB.grow hG
 obtain ⟨res, hres⟩ : ∃ x, x = opF d.op A B := ⟨_, rfl⟩
 rw [← hres]
 obtain ⟨op, hop⟩ : ∃ x, x = d.op := ⟨_, rfl⟩
 rw [← hop] at hres hw1 Hw1 ⊢
 clear HR hw1
 have HR := Lib.hid hres
 obtain ⟨⟨a0, a1, a2⟩, -⟩ := bA.three
 obtain ⟨⟨b0, b1, b2⟩, -⟩ := bB.three
 have hltA := bA.lt
 have hltB := bB.lt
 rw [Hw1.out] at a0 a1 a2 b0 b1 b2 hltA hltB
 clear hres hop
 unfold OpPost
 by_cases h1 : op = 1
 ·subst h1
  go_enter Try.func24, Try.ntmps24
  go_wp2_with fail
  rw [← Hw1.out]
  refine (iAdd_c vA vB hb hb').mono ?_
  rintro e w2 ⟨rv, rfl, ⟨ra, rn, rc, rfl, oR, rR, fR, i1, i2⟩, hG2⟩
  have HE := Lib.hid (show res = okF (amOk A B) (amB A B) by rw [HR.out]; rfl)
  have hs1 : w.heap.size + 1 + 1 + 1 < w1.heap.size := bZ.lt
  replace bZ := bZ.grow hG2
  replace hG := hG.trans hG2
  clear a0 a1 a2 b0 b1 b2 hltA hltB bA bB
  have hle : w.heap.size ≤ w.heap.size + 1 + 1 + 1 := by omega
  have hKs : ∀ x y z, Keep (fun q => q ≠ w.heap.size + 1 + 1 + 1) w2 (((w2.setCell ⟨w.heap.size + 1 + 1 + 1, 0, none⟩ x).setCell ⟨w.heap.size + 1 + 1 + 1, 1, none⟩ y).setCell ⟨w.heap.size + 1 + 1 + 1, 2, none⟩ z) := fun x y z =>
   (((Keep.refl _ w2).setCell (fun _ e => e rfl) _).setCell (fun _ e => e rfl) _).setCell (fun _ e => e rfl) _
  have HKs := Lib.hid hKs
  clear hKs
  obtain ⟨⟨z0, z1, z2⟩, g0, g1, g2⟩ := bZ.three
  have hltZ := bZ.lt
  go_wp2
  exact ret_cell_tmp T_mat rfl rfl rfl (((bZ.set 0 _).set 1 _).set 2 _) ⟨_, _, _, _, _, by rw [HE.out, okF_is]; rfl, fun m hm => by rw [HE.out] at hm; rw [okF_of hm]; exact ⟨ra, rn, rc, rfl, oR.keep (HKs.out _ _ _) (fun g hg _ e => by have := (fR g hg).1; omega), rR, (fun g hg => by have := (fR g hg).1; omega), i1, i2⟩, ((hG.setCell hle _).setCell hle _).setCell hle _⟩
 by_cases h2 : op = 2
 ·subst h2
  go_enter Try.func24, Try.ntmps24
  go_wp2_with fail
  rw [← Hw1.out]
  refine (implMul_c vA vB (by omega) (by omega)).mono ?_
  rintro e w2 ⟨rv, rfl, ⟨ra, rn, rc, rfl, oR, rR, fR, i1, i2⟩, hG2⟩
  have HE := Lib.hid (show res = okF (mulOk A B) (mulB A B) by rw [HR.out]; rfl)
  have hs1 : w.heap.size + 1 + 1 + 1 < w1.heap.size := bZ.lt
  replace bZ := bZ.grow hG2
  replace hG := hG.trans hG2
  clear a0 a1 a2 b0 b1 b2 hltA hltB bA bB
  have hle : w.heap.size ≤ w.heap.size + 1 + 1 + 1 := by omega
  have hKs : ∀ x y z, Keep (fun q => q ≠ w.heap.size + 1 + 1 + 1) w2 (((w2.setCell ⟨w.heap.size + 1 + 1 + 1, 0, none⟩ x).setCell ⟨w.heap.size + 1 + 1 + 1, 1, none⟩ y).setCell ⟨w.heap.size + 1 + 1 + 1, 2, none⟩ z) := fun x y z =>
   (((Keep.refl _ w2).setCell (fun _ e => e rfl) _).setCell (fun _ e => e rfl) _).setCell (fun _ e => e rfl) _
  have HKs := Lib.hid hKs
  clear hKs
  obtain ⟨⟨z0, z1, z2⟩, g0, g1, g2⟩ := bZ.three
  have hltZ := bZ.lt
  go_wp2
  exact ret_cell_tmp T_mat rfl rfl rfl (((bZ.set 0 _).set 1 _).set 2 _) ⟨_, _, _, _, _, by rw [HE.out, okF_is]; rfl, fun m hm => by rw [HE.out] at hm; rw [okF_of hm]; exact ⟨ra, rn, rc, rfl, oR.keep (HKs.out _ _ _) (fun g hg _ e => by have := (fR g hg).1; omega), rR, (fun g hg => by have := (fR g hg).1; omega), i1, i2⟩, ((hG.setCell hle _).setCell hle _).setCell hle _⟩
 by_cases h3 : op = 3
 ·subst h3
  go_enter Try.func24, Try.ntmps24
  go_wp2_with fail
  rw [← Hw1.out]
  refine (iTurn_c vA hb).mono ?_
  rintro e w2 ⟨rv, rfl, ⟨ra, rn, rc, rfl, oR, rR, fR, i1, i2⟩, hG2⟩
  have HE := Lib.hid (show res = okF (isMatB A) (trB A) by rw [HR.out]; rfl)
  have hs1 : w.heap.size + 1 + 1 + 1 < w1.heap.size := bZ.lt
  replace bZ := bZ.grow hG2
  replace hG := hG.trans hG2
  clear a0 a1 a2 b0 b1 b2 hltA hltB bA bB
  have hle : w.heap.size ≤ w.heap.size + 1 + 1 + 1 := by omega
  have hKs : ∀ x y z, Keep (fun q => q ≠ w.heap.size + 1 + 1 + 1) w2 (((w2.setCell ⟨w.heap.size + 1 + 1 + 1, 0, none⟩ x).setCell ⟨w.heap.size + 1 + 1 + 1, 1, none⟩ y).setCell ⟨w.heap.size + 1 + 1 + 1, 2, none⟩ z) := fun x y z =>
   (((Keep.refl _ w2).setCell (fun _ e => e rfl) _).setCell (fun _ e => e rfl) _).setCell (fun _ e => e rfl) _
  have HKs := Lib.hid hKs
  clear hKs
  obtain ⟨⟨z0, z1, z2⟩, g0, g1, g2⟩ := bZ.three
  have hltZ := bZ.lt
  go_wp2
  exact ret_cell_tmp T_mat rfl rfl rfl (((bZ.set 0 _).set 1 _).set 2 _) ⟨_, _, _, _, _, by rw [HE.out, okF_is]; rfl, fun m hm => by rw [HE.out] at hm; rw [okF_of hm]; exact ⟨ra, rn, rc, rfl, oR.keep (HKs.out _ _ _) (fun g hg _ e => by have := (fR g hg).1; omega), rR, (fun g hg => by have := (fR g hg).1; omega), i1, i2⟩, ((hG.setCell hle _).setCell hle _).setCell hle _⟩
 by_cases h7 : op = 7
 ·subst h7
  go_enter Try.func24, Try.ntmps24
  go_wp2_with fail
  rw [← Hw1.out]
  refine (iKernelOf_c vA hb).mono ?_
  rintro e w2 ⟨rv, rfl, ⟨ra, rn, rc, rfl, oR, rR, fR, i1, i2⟩, hG2⟩
  have HE := Lib.hid (show res = okF (kerOk A) (kerB A) by rw [HR.out]; rfl)
  have hs1 : w.heap.size + 1 + 1 + 1 < w1.heap.size := bZ.lt
  replace bZ := bZ.grow hG2
  replace hG := hG.trans hG2
  clear a0 a1 a2 b0 b1 b2 hltA hltB bA bB
  have hle : w.heap.size ≤ w.heap.size + 1 + 1 + 1 := by omega
  have hKs : ∀ x y z, Keep (fun q => q ≠ w.heap.size + 1 + 1 + 1) w2 (((w2.setCell ⟨w.heap.size + 1 + 1 + 1, 0, none⟩ x).setCell ⟨w.heap.size + 1 + 1 + 1, 1, none⟩ y).setCell ⟨w.heap.size + 1 + 1 + 1, 2, none⟩ z) := fun x y z =>
   (((Keep.refl _ w2).setCell (fun _ e => e rfl) _).setCell (fun _ e => e rfl) _).setCell (fun _ e => e rfl) _
  have HKs := Lib.hid hKs
  clear hKs
  obtain ⟨⟨z0, z1, z2⟩, g0, g1, g2⟩ := bZ.three
  have hltZ := bZ.lt
  go_wp2
  exact ret_cell_tmp T_mat rfl rfl rfl (((bZ.set 0 _).set 1 _).set 2 _) ⟨_, _, _, _, _, by rw [HE.out, okF_is]; rfl, fun m hm => by rw [HE.out] at hm; rw [okF_of hm]; exact ⟨ra, rn, rc, rfl, oR.keep (HKs.out _ _ _) (fun g hg _ e => by have := (fR g hg).1; omega), rR, (fun g hg => by have := (fR g hg).1; omega), i1, i2⟩, ((hG.setCell hle _).setCell hle _).setCell hle _⟩
 by_cases h8 : op = 8
 ·subst h8
  go_enter Try.func24, Try.ntmps24
  go_wp2_with fail
  rw [← Hw1.out]
  refine (iGramOf_c vA hb).mono ?_
  rintro e w2 ⟨rv, rfl, ⟨ra, rn, rc, rfl, oR, rR, fR, i1, i2⟩, hG2⟩
  have HE := Lib.hid (show res = okF (gramOk A) (gramB A) by rw [HR.out]; rfl)
  have hs1 : w.heap.size + 1 + 1 + 1 < w1.heap.size := bZ.lt
  replace bZ := bZ.grow hG2
  replace hG := hG.trans hG2
  clear a0 a1 a2 b0 b1 b2 hltA hltB bA bB
  have hle : w.heap.size ≤ w.heap.size + 1 + 1 + 1 := by omega
  have hKs : ∀ x y z, Keep (fun q => q ≠ w.heap.size + 1 + 1 + 1) w2 (((w2.setCell ⟨w.heap.size + 1 + 1 + 1, 0, none⟩ x).setCell ⟨w.heap.size + 1 + 1 + 1, 1, none⟩ y).setCell ⟨w.heap.size + 1 + 1 + 1, 2, none⟩ z) := fun x y z =>
   (((Keep.refl _ w2).setCell (fun _ e => e rfl) _).setCell (fun _ e => e rfl) _).setCell (fun _ e => e rfl) _
  have HKs := Lib.hid hKs
  clear hKs
  obtain ⟨⟨z0, z1, z2⟩, g0, g1, g2⟩ := bZ.three
  have hltZ := bZ.lt
  go_wp2
  exact ret_cell_tmp T_mat rfl rfl rfl (((bZ.set 0 _).set 1 _).set 2 _) ⟨_, _, _, _, _, by rw [HE.out, okF_is]; rfl, fun m hm => by rw [HE.out] at hm; rw [okF_of hm]; exact ⟨ra, rn, rc, rfl, oR.keep (HKs.out _ _ _) (fun g hg _ e => by have := (fR g hg).1; omega), rR, (fun g hg => by have := (fR g hg).1; omega), i1, i2⟩, ((hG.setCell hle _).setCell hle _).setCell hle _⟩
 by_cases h4 : op = 4
 ·subst h4
  go_enter Try.func24, Try.ntmps24
  go_wp2_with fail
  rw [← Hw1.out]
  refine (iDetOf_c vA hb).mono ?_
  rintro e w2 ⟨rfl, hG2⟩
  have HE := Lib.hid (show res = okF (dtOk A) { rows := 1, cols := 1, cells := [dtV A] } by rw [HR.out]; rfl)
  replace bZ := bZ.grow hG2
  replace hG := hG.trans hG2
  have hs1 : w.heap.size + 1 + 1 + 1 < w2.heap.size := bZ.lt
  have hdr := dtV_rng A
  clear a0 a1 a2 b0 b1 b2 hltA hltB bA bB
  cases hok : dtOk A with
  | false =>
   have HE2 := Lib.hid (show res = none by rw [HE.out, hok]; rfl)
   clear hok HE
   have hle : w.heap.size ≤ w.heap.size + 1 + 1 + 1 := by omega
   have hKs : ∀ x y z, Keep (fun q => q ≠ w.heap.size + 1 + 1 + 1) w2 (((w2.setCell ⟨w.heap.size + 1 + 1 + 1, 0, none⟩ x).setCell ⟨w.heap.size + 1 + 1 + 1, 1, none⟩ y).setCell ⟨w.heap.size + 1 + 1 + 1, 2, none⟩ z) := fun x y z =>
    (((Keep.refl _ w2).setCell (fun _ e => e rfl) _).setCell (fun _ e => e rfl) _).setCell (fun _ e => e rfl) _
   have HKs := Lib.hid hKs
   clear hKs
   obtain ⟨⟨z0, z1, z2⟩, g0, g1, g2⟩ := bZ.three
   have hltZ := bZ.lt
   go_wp2
   exact ret_cell_tmp T_mat rfl rfl rfl (((bZ.set 0 _).set 1 _).set 2 _) ⟨_, _, _, _, _, by rw [HE2.out]; rfl, (fun m hm => by rw [HE2.out] at hm; cases hm), ((hG.setCell hle _).setCell hle _).setCell hle _⟩
  | true =>
   have HE2 := Lib.hid (show res = some { rows := 1, cols := 1, cells := [dtV A] } by rw [HE.out, hok]; rfl)
   clear hok HE
   generalize dtV A = dv at *
   have hle : w.heap.size ≤ w.heap.size + 1 + 1 + 1 := by omega
   have hKs : ∀ x y z, Keep (fun q => q ≠ w.heap.size + 1 + 1 + 1) w2 (((w2.setCell ⟨w.heap.size + 1 + 1 + 1, 0, none⟩ x).setCell ⟨w.heap.size + 1 + 1 + 1, 1, none⟩ y).setCell ⟨w.heap.size + 1 + 1 + 1, 2, none⟩ z) := fun x y z =>
    (((Keep.refl _ w2).setCell (fun _ e => e rfl) _).setCell (fun _ e => e rfl) _).setCell (fun _ e => e rfl) _
   have HKs := Lib.hid hKs
   clear hKs
   obtain ⟨⟨z0, z1, z2⟩, g0, g1, g2⟩ := bZ.three
   have hltZ := bZ.lt
   go_wp2
   have oD : ∀ x y z, Own ((((w2.setCell ⟨w.heap.size + 1 + 1 + 1, 0, none⟩ x).setCell ⟨w.heap.size + 1 + 1 + 1, 1, none⟩ y).setCell ⟨w.heap.size + 1 + 1 + 1, 2, none⟩ z).alloc (.cells #[.int .i64 dv] 3)) 3 1 (some ⟨w2.heap.size, 0, none⟩) 1 1 (ints [dv]) := fun x y z => Own.freshAt (by simp) (by unfold maxLen; omega) rfl
   exact ret_cell_tmp T_mat rfl rfl rfl ((((bZ.set 0 _).set 1 _).set 2 _).alloc _) ⟨_, _, _, _, _, by rw [HE2.out]; rfl, (fun m hm => by rw [HE2.out] at hm; rw [← Option.some.inj hm]; exact ⟨_, 1, 1, rfl, oD _ _ _, (fun x hx => by rw [List.mem_singleton.1 hx]; exact hdr), (fun q hq => by have := Option.some.inj hq; simp only at this; omega), by unfold I64; simp, by unfold I64; simp⟩), (((hG.setCell hle _).setCell hle _).setCell hle _).alloc _ _⟩
 by_cases h5 : op = 5
 ·subst h5
  go_enter Try.func24, Try.ntmps24
  go_wp2_with fail
  rw [← Hw1.out]
  refine (iHerm_o vA hb).mono ?_
  rintro e w2 ⟨x1, x2, x3, x4, x5, y1, y2, y3, y4, y5, rfl, hr, hG2⟩
  have HE := Lib.hid (show res = hrmF A from HR.out)
  have hs1 : w.heap.size + 1 + 1 + 1 < w1.heap.size := bZ.lt
  replace bZ := bZ.grow hG2
  replace hG := hG.trans hG2
  clear a0 a1 a2 b0 b1 b2 hltA hltB bA bB
  obtain ⟨w3, hw3⟩ : ∃ z, z = (w2.alloc (.cells #[.int .i64 x1, .int .i64 x2, .slice x3 x4 x5] 28)).alloc (.cells #[.int .i64 y1, .int .i64 y2, .slice y3 y4 y5] 28) := ⟨_, rfl⟩
  have hG3 : Grow w2 w3 := by rw [hw3]; exact ((Grow.refl _).alloc _ _).alloc _ _
  have bX : Blk w3 w2.heap.size #[.int .i64 x1, .int .i64 x2, .slice x3 x4 x5] 28 := by rw [hw3]; exact (Blk.new _ _ _).alloc _
  have Hr := Lib.hid (fun r h => (hr r h).grow hG3)
  replace bZ := bZ.grow hG3
  replace hG := hG.trans hG3
  rw [hw3] at bX bZ hG Hr
  clear hr hw3 hG3 hG2
  obtain ⟨⟨e0, e1, e2⟩, -⟩ := bX.three
  have hltX := bX.lt
  have hle : w.heap.size ≤ w.heap.size + 1 + 1 + 1 := by omega
  have hKs : ∀ x y z, Keep (fun q => q ≠ w.heap.size + 1 + 1 + 1) ((w2.alloc (.cells #[.int .i64 x1, .int .i64 x2, .slice x3 x4 x5] 28)).alloc (.cells #[.int .i64 y1, .int .i64 y2, .slice y3 y4 y5] 28)) (((((w2.alloc (.cells #[.int .i64 x1, .int .i64 x2, .slice x3 x4 x5] 28)).alloc (.cells #[.int .i64 y1, .int .i64 y2, .slice y3 y4 y5] 28)).setCell ⟨w.heap.size + 1 + 1 + 1, 0, none⟩ x).setCell ⟨w.heap.size + 1 + 1 + 1, 1, none⟩ y).setCell ⟨w.heap.size + 1 + 1 + 1, 2, none⟩ z) := fun x y z =>
   (((Keep.refl _ ((w2.alloc (.cells #[.int .i64 x1, .int .i64 x2, .slice x3 x4 x5] 28)).alloc (.cells #[.int .i64 y1, .int .i64 y2, .slice y3 y4 y5] 28))).setCell (fun _ e => e rfl) _).setCell (fun _ e => e rfl) _).setCell (fun _ e => e rfl) _
  have HKs := Lib.hid hKs
  clear hKs
  obtain ⟨⟨z0, z1, z2⟩, g0, g1, g2⟩ := bZ.three
  have hltZ := bZ.lt
  go_wp2
  exact ret_cell_tmp T_mat rfl rfl rfl (((bZ.set 0 _).set 1 _).set 2 _) ⟨_, _, _, _, _, by rw [HE.out]; rfl, fun m hm => by rw [HE.out] at hm; exact ((Hr.out m hm).keep (HKs.out _ _ _) (fun g _ hg => by omega)).weak fun q _ hq => by omega, ((hG.setCell hle _).setCell hle _).setCell hle _⟩
 by_cases h6 : op = 6
 ·subst h6
  go_enter Try.func24, Try.ntmps24
  go_wp2_with fail
  rw [← Hw1.out]
  refine (iSmith_o vA hb).mono ?_
  rintro e w2 ⟨x1, x2, x3, x4, x5, y1, y2, y3, y4, y5, k1, k2, k3, k4, k5, rfl, hr, hG2⟩
  have HE := Lib.hid (show res = smiF A by rw [HR.out]; rfl)
  have hs1 : w.heap.size + 1 + 1 + 1 < w1.heap.size := bZ.lt
  replace bZ := bZ.grow hG2
  replace hG := hG.trans hG2
  clear a0 a1 a2 b0 b1 b2 hltA hltB bA bB
  obtain ⟨w3, hw3⟩ : ∃ z, z = ((w2.alloc (.cells #[.int .i64 x1, .int .i64 x2, .slice x3 x4 x5] 28)).alloc (.cells #[.int .i64 y1, .int .i64 y2, .slice y3 y4 y5] 28)).alloc (.cells #[.int .i64 k1, .int .i64 k2, .slice k3 k4 k5] 28) := ⟨_, rfl⟩
  have hG3 : Grow w2 w3 := by rw [hw3]; exact (((Grow.refl _).alloc _ _).alloc _ _).alloc _ _
  have bX : Blk w3 w2.heap.size #[.int .i64 x1, .int .i64 x2, .slice x3 x4 x5] 28 := by rw [hw3]; exact ((Blk.new _ _ _).alloc _).alloc _
  have Hr := Lib.hid (fun r h => (hr r h).grow hG3)
  replace bZ := bZ.grow hG3
  replace hG := hG.trans hG3
  rw [hw3] at bX bZ hG Hr
  clear hr hw3 hG3 hG2
  obtain ⟨⟨e0, e1, e2⟩, -⟩ := bX.three
  have hltX := bX.lt
  have hle : w.heap.size ≤ w.heap.size + 1 + 1 + 1 := by omega
  have hKs : ∀ x y z, Keep (fun q => q ≠ w.heap.size + 1 + 1 + 1) (((w2.alloc (.cells #[.int .i64 x1, .int .i64 x2, .slice x3 x4 x5] 28)).alloc (.cells #[.int .i64 y1, .int .i64 y2, .slice y3 y4 y5] 28)).alloc (.cells #[.int .i64 k1, .int .i64 k2, .slice k3 k4 k5] 28)) ((((((w2.alloc (.cells #[.int .i64 x1, .int .i64 x2, .slice x3 x4 x5] 28)).alloc (.cells #[.int .i64 y1, .int .i64 y2, .slice y3 y4 y5] 28)).alloc (.cells #[.int .i64 k1, .int .i64 k2, .slice k3 k4 k5] 28)).setCell ⟨w.heap.size + 1 + 1 + 1, 0, none⟩ x).setCell ⟨w.heap.size + 1 + 1 + 1, 1, none⟩ y).setCell ⟨w.heap.size + 1 + 1 + 1, 2, none⟩ z) := fun x y z =>
   (((Keep.refl _ (((w2.alloc (.cells #[.int .i64 x1, .int .i64 x2, .slice x3 x4 x5] 28)).alloc (.cells #[.int .i64 y1, .int .i64 y2, .slice y3 y4 y5] 28)).alloc (.cells #[.int .i64 k1, .int .i64 k2, .slice k3 k4 k5] 28))).setCell (fun _ e => e rfl) _).setCell (fun _ e => e rfl) _).setCell (fun _ e => e rfl) _
  have HKs := Lib.hid hKs
  clear hKs
  obtain ⟨⟨z0, z1, z2⟩, g0, g1, g2⟩ := bZ.three
  have hltZ := bZ.lt
  go_wp2
  exact ret_cell_tmp T_mat rfl rfl rfl (((bZ.set 0 _).set 1 _).set 2 _) ⟨_, _, _, _, _, by rw [HE.out]; rfl, fun m hm => by rw [HE.out] at hm; exact ((Hr.out m hm).keep (HKs.out _ _ _) (fun g _ hg => by omega)).weak fun q _ hq => by omega, ((hG.setCell hle _).setCell hle _).setCell hle _⟩
 ·have q1 : (op == 1) = false := by simp [h1]
  have q2 : (op == 2) = false := by simp [h2]
  have q3 : (op == 3) = false := by simp [h3]
  have q4 : (op == 4) = false := by simp [h4]
  have q5 : (op == 5) = false := by simp [h5]
  have q6 : (op == 6) = false := by simp [h6]
  have q7 : (op == 7) = false := by simp [h7]
  have q8 : (op == 8) = false := by simp [h8]
  have HO := Lib.hid (show opF op A B = okF (redBOk A) (redBB A) by unfold opF; rw [if_neg h1, if_neg h2, if_neg h3, if_neg h4, if_neg h5, if_neg h6, if_neg h7, if_neg h8])
  rw [HO.out] at HR
  clear h1 h2 h3 h4 h5 h6 h7 h8 HO
  go_enter Try.func24, Try.ntmps24
  go_wp2_with fail
  rw [← Hw1.out]
  refine (iRed_o vA hb).mono ?_
  rintro e w2 ⟨x1, x2, x3, x4, x5, y1, y2, y3, y4, y5, rfl, hr, hG2⟩
  have HE := Lib.hid (show res = okF (redBOk A) (redBB A) from HR.out)
  have hs1 : w.heap.size + 1 + 1 + 1 < w1.heap.size := bZ.lt
  replace bZ := bZ.grow hG2
  replace hG := hG.trans hG2
  clear a0 a1 a2 b0 b1 b2 hltA hltB bA bB
  obtain ⟨w3, hw3⟩ : ∃ z, z = (w2.alloc (.cells #[.int .i64 x1, .int .i64 x2, .slice x3 x4 x5] 28)).alloc (.cells #[.int .i64 y1, .int .i64 y2, .slice y3 y4 y5] 28) := ⟨_, rfl⟩
  have hG3 : Grow w2 w3 := by rw [hw3]; exact ((Grow.refl _).alloc _ _).alloc _ _
  have bX : Blk w3 w2.heap.size #[.int .i64 x1, .int .i64 x2, .slice x3 x4 x5] 28 := by rw [hw3]; exact (Blk.new _ _ _).alloc _
  have Hr := Lib.hid (fun r h => (hr r h).grow hG3)
  replace bZ := bZ.grow hG3
  replace hG := hG.trans hG3
  rw [hw3] at bX bZ hG Hr
  clear hr hw3 hG3 hG2
  obtain ⟨⟨e0, e1, e2⟩, -⟩ := bX.three
  have hltX := bX.lt
  have hle : w.heap.size ≤ w.heap.size + 1 + 1 + 1 := by omega
  have hKs : ∀ x y z, Keep (fun q => q ≠ w.heap.size + 1 + 1 + 1) ((w2.alloc (.cells #[.int .i64 x1, .int .i64 x2, .slice x3 x4 x5] 28)).alloc (.cells #[.int .i64 y1, .int .i64 y2, .slice y3 y4 y5] 28)) (((((w2.alloc (.cells #[.int .i64 x1, .int .i64 x2, .slice x3 x4 x5] 28)).alloc (.cells #[.int .i64 y1, .int .i64 y2, .slice y3 y4 y5] 28)).setCell ⟨w.heap.size + 1 + 1 + 1, 0, none⟩ x).setCell ⟨w.heap.size + 1 + 1 + 1, 1, none⟩ y).setCell ⟨w.heap.size + 1 + 1 + 1, 2, none⟩ z) := fun x y z =>
   (((Keep.refl _ ((w2.alloc (.cells #[.int .i64 x1, .int .i64 x2, .slice x3 x4 x5] 28)).alloc (.cells #[.int .i64 y1, .int .i64 y2, .slice y3 y4 y5] 28))).setCell (fun _ e => e rfl) _).setCell (fun _ e => e rfl) _).setCell (fun _ e => e rfl) _
  have HKs := Lib.hid hKs
  clear hKs
  obtain ⟨⟨z0, z1, z2⟩, g0, g1, g2⟩ := bZ.three
  have hltZ := bZ.lt
  go_wp2
  exact ret_cell_tmp T_mat rfl rfl rfl (((bZ.set 0 _).set 1 _).set 2 _) ⟨_, _, _, _, _, by rw [HE.out]; rfl, fun m hm => by rw [HE.out] at hm; exact ((Hr.out m hm).keep (HKs.out _ _ _) (fun g _ hg => by omega)).weak fun q _ hq => by omega, ((hG.setCell hle _).setCell hle _).setCell hle _⟩
end Go.Proofs.Ytgeoehnbpkediaa

namespace Go.Proofs.Ytgeoehnbpkediaa
theorem hrmF_bd {m r : Mat} (h : hrmF m = some r) : bdM r ≤ 1048576 := by
 unfold hrmF at h
 split at h
 ·obtain ⟨R, C, hmr, hmc, hR, hC, hl, hnum⟩ := isMatB_shape (by assumption)
  rw [hmr, hmc, Int.toNat_natCast, Int.toNat_natCast] at h
  cases hs : herm m.cells R C with
  | none => rw [hs] at h; cases h
  | some s =>
   rw [hs, Option.map_some] at h
   rw [← Option.some.inj h]
   have h1 := (herm_spec hl hnum hs).1.la
   have h2 : R * C ≤ 24 * 24 := Nat.mul_le_mul hR hC
   unfold bdM; simp only; omega
 ·cases h
theorem smiF_bd {m r : Mat} (h : smiF m = some r) : bdM r ≤ 1048576 := by
 unfold smiF at h
 split at h
 ·obtain ⟨R, C, hmr, hmc, hR, hC, hl, hnum⟩ := isMatB_shape (by assumption)
  rw [hmr, hmc, Int.toNat_natCast, Int.toNat_natCast] at h
  cases hs : smith m.cells R C with
  | none => rw [hs] at h; cases h
  | some s =>
   rw [hs, Option.map_some] at h
   rw [← Option.some.inj h]
   have h1 := (smith_spec hl hnum hs).la
   have h2 : R * C ≤ 24 * 24 := Nat.mul_le_mul hR hC
   unfold bdM; simp only; omega
 ·cases h
theorem redBB_bd (m : Mat) : bdM (redBB m) ≤ 1048576 := by
 unfold redBB
 split
 ·split
  ·exact mulB_bd2 _ _
  ·simp [bdM]
 ·simp [bdM]
theorem opF_bd {op : Int} {a b r : Mat} (h : opF op a b = some r) : bdM r ≤ 1048576 := by
 unfold opF at h
 split at h
 ·rw [okF_of h]; unfold amB; split; exact Nat.le_trans okM_bd (by decide); simp [bdM]
 split at h
 ·rw [okF_of h]; exact mulB_bd2 _ _
 split at h
 ·rw [okF_of h]; exact trB_bd _
 split at h
 ·rw [okF_of h]; simp [bdM]
 split at h
 ·exact hrmF_bd h
 split at h
 ·exact smiF_bd h
 split at h
 ·rw [okF_of h]; have := kerB_bd a; omega
 split at h
 ·rw [okF_of h]; exact gramB_bd _
 ·rw [okF_of h]; exact redBB_bd _
end Go.Proofs.Ytgeoehnbpkediaa
