/-
  The program's IdentityMatrix and newWork.
-/
import Derived.Test.YthlncohllbmapaaHermZ
namespace Go.Proofs.Ythlncohllbmapaa
open Go.RowKit

set_option maxHeartbeats 2000000 in
set_option maxRecDepth 100000 in
theorem iIdentity_c (n : Nat) (w : World) (hn : n ≤ 24) :
    Calls Try.prog 133 #[.int .i64 n] w fun e w' => ∃ a, e = .returned (.tuple #[.agg #[.int .i64 n, .int .i64 n, .slice a (n * n) (n * n)], .bool true]) ∧ Own w' 3 1 a (n * n) (n * n) (ints (idL n)) ∧ (∀ q, blk a = some q → w.heap.size ≤ q) ∧ Grow w w' := by
  have hnn : n * n ≤ 24 * 24 := Nat.mul_le_mul hn hn
  have hGz := (Grow.refl w).alloc #[.int .i64 0, .int .i64 0, .slice none 0 0] 27
  have bZ := Blk.new w #[.int .i64 0, .int .i64 0, .slice none 0 0] 27
  go_enter Try.func133, Try.ntmps133
  go_wp2_with fail
  refine (newMatrix_c n n _ (by omega) (by omega)).mono ?_
  rintro e w1 ⟨a, rfl, hO, hB, hG1⟩
  have hB' : ∀ q, blk a = some q → w.heap.size < q := fun q hq => by have := hB q hq; simp at this; omega
  have hG01 := hGz.trans hG1
  have bZ1 := bZ.grow hG1
  have hGa := (Grow.refl w1).alloc #[.int .i64 (n : Int), .int .i64 (n : Int), .slice a (n * n) (n * n)] 27
  have bM := Blk.new w1 #[.int .i64 (n : Int), .int .i64 (n : Int), .slice a (n * n) (n * n)] 27
  have hO2 := hO.grow hGa
  have bZ2 := bZ1.grow hGa
  have hG02 := hG01.trans hGa
  have nM : blk a ≠ some w1.heap.size := fun e => by have := hO.lt e; omega
  have nZ : blk a ≠ some w.heap.size := fun e => by have := hB' _ e; omega
  have hs1 := hG01.size
  clear hO bZ bZ1 hG01 hGz hG1
  go_wp2
  go_loopw [5] (fun q wr => Keep (fun q => blk a ≠ some q) (w1.alloc (.cells #[.int .i64 (n : Int), .int .i64 (n : Int), .slice a (n * n) (n * n)] 27)) wr ∧ ∃ k : Nat, k ≤ n ∧ q = .int .i64 k ∧ Own wr 3 1 a (n * n) (n * n) (ints (idN n k))) (fun q _ => n - (intOf q).toNat)
  case atStart => exact ⟨Keep.refl _ _, 0, Nat.zero_le _, rfl, by simpa [idN] using hO2⟩
  case round =>
    clear hO2
    obtain ⟨hK, k, hk, rfl, hO⟩ := hrel
    have bMr := bM.keep hK nM
    obtain ⟨⟨a0, a1, a2⟩, -⟩ := bMr.three
    have hltM := bMr.lt
    by_cases hlt : k < n
    · have hix : k * n + k < n * n := place_lt hlt hlt
      go_wp2_with fail
      refine (set_c a (n * n) (n * n) n k k (k * n + k) (n : Int) 1 (idN n k) _ hO rfl hix (by omega) (by omega) (by omega) (by omega)).mono ?_
      rintro e w3 ⟨rfl, hO3, hK3⟩
      rw [← idN_succ] at hO3
      clear hix
      go_wp2
      go_roundw
      case rel => exact ⟨hK.trans hK3, k + 1, by omega, by go_num, hO3⟩
      case measure => simp [intOf]; omega
    · have hkn : k = n := by omega
      subst hkn
      have bZr := bZ2.keep hK nZ
      obtain ⟨⟨z0, z1, z2⟩, g0, g1, g2⟩ := bZr.three
      have hltZ := bZr.lt
      have hKs : Keep (fun q => q ≠ w.heap.size) wr (((wr.setCell ⟨w.heap.size, 0, none⟩ (.int .i64 (k : Int))).setCell ⟨w.heap.size, 1, none⟩ (.int .i64 (k : Int))).setCell ⟨w.heap.size, 2, none⟩ (.slice a (k * k) (k * k))) :=
        (((Keep.refl _ wr).setCell (fun _ e => e rfl) _).setCell (fun _ e => e rfl) _).setCell (fun _ e => e rfl) _
      go_wp2
      refine ret_cell_tmp T_mat rfl rfl rfl (((bZr.set 0 _).set 1 _).set 2 _) ⟨a, rfl, hO.keep hKs (fun q hq _ e => by have := hB' q hq; omega), (fun q hq => Nat.le_of_lt (hB' q hq)), ?_⟩
      exact (hG02.keep hK (fun q hq e => by have := hB' q e; omega)).keep hKs (fun q hq e => by omega)
set_option maxHeartbeats 2000000 in
set_option maxRecDepth 100000 in
theorem newWork_c {S : Nat → Prop} {w : World} {a : Option Addr} {n c R C : Nat} {cells : List Int} (h : RdI w S a n c cells) (hl : cells.length = R * C) (hR : R ≤ 24) (hC : C ≤ 24) :
    Calls Try.prog 111 #[.agg #[.int .i64 R, .int .i64 C, .slice a n c]] w fun e w' => ∃ g aa au ar ca, e = .returned (.pointer (some ⟨g, 0, none⟩)) ∧ Wk w' g R C aa au ar ca (R * R) (C * C) false ∧ Two w' aa au (R * C) (R * R) ca (R * R) (cells, idL R) ∧ w.heap.size ≤ g ∧ (∀ q, blk aa = some q → w.heap.size ≤ q ∧ q ≠ g) ∧ (∀ q, blk au = some q → w.heap.size ≤ q ∧ q ≠ g) ∧ Grow w w' := by
  have hRC : R * C ≤ 24 * 24 := Nat.mul_le_mul hR hC
  have hVM : VM w S (.agg #[.int .i64 R, .int .i64 C, .slice a n c]) { rows := (R : Int), cols := (C : Int), cells := cells } := ⟨a, n, c, rfl, h, by show I64 (R : Int); unfold I64; omega, by show I64 (C : Int); unfold I64; omega⟩
  have hG0 := (Grow.refl w).alloc #[.int .i64 (R : Int), .int .i64 (C : Int), .slice a n c] 27
  have bM := Blk.new w #[.int .i64 (R : Int), .int .i64 (C : Int), .slice a n c] 27
  go_enter Try.func111, Try.ntmps111
  go_wp2_with fail
  refine (iIdentity_c R _ hR).mono ?_
  rintro e w1 ⟨au, rfl, oU, fU, hG1⟩
  have fU' : ∀ q, blk au = some q → w.heap.size < q := fun q hq => by have := fU q hq; simp at this; omega
  have hGu := (Grow.refl w1).alloc #[.int .i64 (R : Int), .int .i64 (R : Int), .slice au (R * R) (R * R)] 27
  have bU := Blk.new w1 #[.int .i64 (R : Int), .int .i64 (R : Int), .slice au (R * R) (R * R)] 27
  have hG2 := (hG0.trans hG1).trans hGu
  have bM2 := bM.grow (hG1.trans hGu)
  have oU2 := oU.grow hGu
  have hltM : w.heap.size < w1.heap.size := (bM.grow hG1).lt
  obtain ⟨⟨a0, a1, a2⟩, -⟩ := bM2.three
  clear oU fU
  go_wp2_with fail
  refine (iIdentity_c C _ hC).mono ?_
  rintro e w3 ⟨ar, rfl, oR, fR, hG3⟩
  have hGr := (Grow.refl w3).alloc #[.int .i64 (C : Int), .int .i64 (C : Int), .slice ar (C * C) (C * C)] 27
  have bR := Blk.new w3 #[.int .i64 (C : Int), .int .i64 (C : Int), .slice ar (C * C) (C * C)] 27
  have hG4 := (hG2.trans hG3).trans hGr
  have bM4 := bM2.grow (hG3.trans hGr)
  have bU4 := bU.grow (hG3.trans hGr)
  have oU4 := oU2.grow (hG3.trans hGr)
  have hVM4 := hVM.grow hG4
  clear a0 a1 a2 bM bM2 bU oU2 hG0 hG1 hG2 hG3 hGu hGr oR fR
  have hs4 := hG4.size
  have hltR : w3.heap.size < (w3.alloc (.cells #[.int .i64 (C : Int), .int .i64 (C : Int), .slice ar (C * C) (C * C)] 27)).heap.size := bR.lt
  go_wp2
  generalize w3.alloc (.cells #[.int .i64 (C : Int), .int .i64 (C : Int), .slice ar (C * C) (C * C)] 27) = w4 at *
  refine wp_region_segs (S := Grow w4) [([0, 2, 3], some 1), ([], some 4), ([], some 5), ([6], none)] P_mixed (by kernel_rfl) (fun _ _ _ _ _ h => h) (Grow.refl _).drew ?_
  show wpQuiet _ _ _ _ [_, _, _] _
  repeat (first | go_big_quiet_skip | (go_big_quiet_want; first | (apply quiet_load3 T_mat; rfl; rfl; exact (fun w' hG => bM4.grow hG); go_big_quiet_on; simp only [Act.put, List.setIfInBounds_toArray, List.set_cons_succ, List.set_cons_zero]) | (apply quiet_load3 T_mat; rfl; rfl; exact (fun w' hG => bU4.grow hG); go_big_quiet_on; simp only [Act.put, List.setIfInBounds_toArray, List.set_cons_succ, List.set_cons_zero]) | (apply quiet_load3 T_mat; rfl; rfl; exact (fun w' hG => bR.grow hG); go_big_quiet_on; simp only [Act.put, List.setIfInBounds_toArray, List.set_cons_succ, List.set_cons_zero]) | (go_big_quiet_op; first | go_big_quiet_on | (refine ⟨_, (fun _ _ => rfl), ?_⟩; go_big_quiet_on))))
  refine wpQuiet_nil ?_
  refine seg_go rfl (fun K hK => ?_)
  go_wp2_with fail
  refine (copyMatrix_c (hVM4.grow (Grow.refl _).drew) (by unfold bdM; simp; omega)).mono ?_
  rintro e w5 ⟨va, rfl, hA, hG5⟩
  obtain ⟨aa, na, ca, rfl, oA, rA, fA, -, -⟩ := hA
  replace oA : Own w5 3 1 aa na ca (ints cells) := oA
  have hna : na = R * C := by have := oA.len; simp at this; omega
  subst hna
  have hG45 := (Grow.refl w4).drew.trans hG5
  have oU5 := oU4.grow hG45
  have fA' : ∀ q, blk aa = some q → w4.heap.size ≤ q ∧ q < w5.heap.size := fun q hq => ⟨(fA q hq).1, oA.lt hq⟩
  have fU5 : ∀ q, blk au = some q → q < w4.heap.size := fun q hq => oU4.lt hq
  have hs5 := hG45.size
  go_wp2_with fail
  refine hK _ _ (hG45) ?_
  clear hK K
  show wpQuiet _ _ _ _ [] _
  try (conv => arg 6; simp only [Act.put, List.setIfInBounds_toArray, List.set_cons_succ, List.set_cons_zero])
  refine wpQuiet_nil ?_
  refine seg_go rfl (fun K hK => ?_)
  go_wp2_with fail
  refine hK _ _ (hG45) ?_
  clear hK K
  show wpQuiet _ _ _ _ [] _
  try (conv => arg 6; simp only [Act.put, List.setIfInBounds_toArray, List.set_cons_succ, List.set_cons_zero])
  refine wpQuiet_nil ?_
  refine seg_go rfl (fun K hK => ?_)
  go_wp2_with fail
  refine hK _ _ ((hG45.alloc _ _)) ?_
  clear hK K
  show wpQuiet _ _ _ _ [_] _
  try (conv => arg 6; simp only [Act.put, List.setIfInBounds_toArray, List.set_cons_succ, List.set_cons_zero])
  repeat (first | go_big_quiet_skip | (go_big_quiet_want; first | (apply quiet_load3 T_mat; rfl; rfl; exact (fun w' hG => bM4.grow hG); go_big_quiet_on; simp only [Act.put, List.setIfInBounds_toArray, List.set_cons_succ, List.set_cons_zero]) | (apply quiet_load3 T_mat; rfl; rfl; exact (fun w' hG => bU4.grow hG); go_big_quiet_on; simp only [Act.put, List.setIfInBounds_toArray, List.set_cons_succ, List.set_cons_zero]) | (apply quiet_load3 T_mat; rfl; rfl; exact (fun w' hG => bR.grow hG); go_big_quiet_on; simp only [Act.put, List.setIfInBounds_toArray, List.set_cons_succ, List.set_cons_zero]) | (go_big_quiet_op; first | go_big_quiet_on | (refine ⟨_, (fun _ _ => rfl), ?_⟩; go_big_quiet_on))))
  refine wpQuiet_nil ?_
  refine wpSegs_nil ?_
  go_wp2
  go_ret
  have hGe := (Grow.refl w5).alloc (WkC R C aa au ar ca (R * R) (C * C) false) 91
  exact ⟨w5.heap.size, aa, au, ar, ca, rfl, Blk.new _ _ _, ⟨oA.grow hGe, oU5.grow hGe, fun q hq e => by have := fA' q hq; have := fU5 q e; omega⟩, by omega, fun q hq => by have := fA' q hq; omega, fun q hq => by have := fU' q hq; have := fU5 q hq; omega, (hG4.trans hG45).trans hGe⟩
end Go.Proofs.Ythlncohllbmapaa
