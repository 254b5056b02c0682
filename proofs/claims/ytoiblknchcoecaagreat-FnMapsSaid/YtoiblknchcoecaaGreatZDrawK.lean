/-
  The draws of modules once more, with what is told of their cells: only the first one can be great.
-/
import Derived.Test.YtoiblknchcoecaaGreatZDrawN
import Derived.Test.YtoiblknchcoecaaGreatZLatB
set_option maxHeartbeats 8000000
set_option maxRecDepth 100000
namespace Go.Proofs.YtoiblknchcoecaaGreat
open Go.RowKit
def Sp (xs : List Int) : Prop := ∀ i, 1 ≤ i → -4 ≤ xs.getD i 0 ∧ xs.getD i 0 ≤ 4
theorem Sp.of {xs : List Int} (h : ∀ x ∈ xs, -4 ≤ x ∧ x ≤ 4) : Sp xs := fun i _ => by
 rw [List.getD_eq_getElem?_getD]
 cases hx : xs[i]? with
 | none => simp
 | some x => exact h x (List.mem_of_getElem? hx)
theorem Sp.set {xs : List Int} (h : Sp xs) (y : Int) : Sp (xs.set 0 y) := fun i hi => by
 rw [List.getD_eq_getElem?_getD, List.getElem?_set_ne (by omega), ← List.getD_eq_getElem?_getD]
 exact h i hi
theorem Sp.app {xs ys : List Int} (h : Sp xs) (h' : ∀ x ∈ ys, -4 ≤ x ∧ x ≤ 4) : Sp (xs ++ ys) := fun i hi => by
 have h0 := h i hi
 rw [List.getD_eq_getElem?_getD] at h0 ⊢
 by_cases e : i < xs.length
 ·rw [List.getElem?_append_left e]; exact h0
 ·rw [List.getElem?_append_right (by omega)]
  cases hx : ys[i - xs.length]? with
  | none => simp
  | some x => exact h' x (List.mem_of_getElem? hx)
theorem Sp.one {xs : List Int} (h : Sp xs) : Sp (xs ++ [1]) := h.app fun x hx => by rw [List.mem_singleton.1 hx]; omega
theorem l3Spoil_k {B : Nat} (g : Nat) (v : Value) (m : Mat) (w : World) (h : Cur w g) (hM : OM w (fun q => B ≤ q) v m) (hb : bdM m ≤ 1024) (hg : g < B) (hBw : B ≤ w.heap.size) (hsd : Sp m.cells) :
  Calls Tryz.prog 75 #[.pointer (some ⟨g, 0, none⟩), v] w fun e w' => ∃ u m', e = .returned u ∧ OM w' (fun q => B ≤ q) u m' ∧ bdM m' ≤ 1025 ∧ (m'.cols = m.cols ∧ Sp m'.cells) ∧ Cur w' g ∧ Keep (fun q => q < B ∧ q ≠ g) w w' := by
 obtain ⟨a, n, c, rfl, hO, hx, hlo, hR, hCc⟩ := hM
 obtain ⟨R, C, xs⟩ := m
 simp only at hO hx hR hCc hsd
 unfold bdM at hb
 simp only at hb
 have hl : xs.length = n := by simpa using hO.len
 have hnb : n ≤ 1024 := by omega
 have hgw := h.lt
 have hOw := fun q hq => hO.lt (g := q) hq
 obtain ⟨w1, hw1⟩ : ∃ w1, w1 = (w.alloc (.cells #[.int .i64 R, .int .i64 C, .slice a n c] 26)).alloc (.cells #[.int .i64 0, .int .i64 0, .slice none 0 0] 26) := ⟨_, rfl⟩
 have hG1 : Grow w w1 := by rw [hw1]; exact ((Grow.refl w).alloc _ _).alloc _ _
 have bX : Blk w1 w.heap.size #[.int .i64 R, .int .i64 C, .slice a n c] 26 := by rw [hw1]; exact (Blk.new w _ _).alloc _
 have bZ : Blk w1 (w.heap.size + 1) #[.int .i64 0, .int .i64 0, .slice none 0 0] 26 := by rw [hw1]; exact Blk.newAt _ _ _ (by simp)
 replace hO := hO.grow hG1
 replace h := h.grow hG1
 have hs1 : w.heap.size + 2 ≤ w1.heap.size := by have := bZ.lt; omega
 go_enter Tryz.func75, Tryz.ntmps75
 go_wp2_with fail
 rw [← hw1]
 clear hw1
 refine (l1Below_c g 40 _ h (by omega)).mono ?_
 rintro e w2 ⟨x, hx40, rfl, hC, hK2⟩
 replace bX := bX.keep hK2 (by omega)
 replace bZ := bZ.keep hK2 (by omega)
 replace hO := hO.keep hK2 (fun q hq _ e => by have := hlo q hq; omega)
 have hs2 := hK2.size
 have hKt : Keep (fun q => q < B ∧ q ≠ g) w w2 := (hG1.any).trans (hK2.mono fun q _ hq => hq.2)
 clear hK2 hG1 h
 by_cases x0 : x = 0
 ·subst x0
  obtain ⟨⟨e0, e1, e2⟩, ef0, ef1, ef2⟩ := bX.three
  have hltX := bX.lt
  have hrw : I64 (wrap64 (R + 1)) := by unfold wrap64 I64; omega
  go_wp2_with fail
  generalize wrap64 (R + 1) = R1 at hrw ⊢
  have hRp : RdI (w2.alloc (.cells #[.int .i64 (-1), .int .i64 0, .int .i64 7, .int .i64 R1] 3)) (fun q => q = w2.heap.size) (some ⟨w2.heap.size, 0, none⟩) 4 4 [-1, 0, 7, R1] := RdI.litM (Blk.new _ _ _) rfl rfl (by simp) (by intro z hz; simp at hz; rcases hz with rfl | rfl | rfl | rfl <;> (first | exact hrw | (unfold I64; omega))) rfl
  have hGa := (Grow.refl w2).alloc #[.int .i64 (-1), .int .i64 0, .int .i64 7, .int .i64 R1] 3
  refine (pickIntM_c g _ _ _ _ _ (hC.grow hGa) hRp (fun q hq => by omega) (by omega) (by omega)).mono ?_
  rintro e w3 ⟨y, hy, rfl, hC3, hK3⟩
  have hKa := hGa.any.trans hK3
  have bX3 := bX.keep hKa (by omega)
  have bZ3 := bZ.keep hKa (by omega)
  have hO3 := hO.keep hKa (fun q hq _ e => by have := hlo q hq; omega)
  have hK33 := hKt.trans (hKa.mono fun q _ hq => hq.2)
  have hs3 := hKa.size
  clear e0 e1 e2 ef0 ef1 ef2 bX bZ hO hKt hKa hK3 hGa hRp hC
  obtain ⟨⟨e0, e1, e2⟩, ef0, ef1, ef2⟩ := bX3.three
  obtain ⟨⟨z0, z1, z2⟩, f0, f1, f2⟩ := bZ3.three
  have hltX3 := bX3.lt
  have hltZ3 := bZ3.lt
  have hne : ∀ q, blk a = some q → q ≠ w.heap.size + 1 ∧ q ≠ w.heap.size := fun q hq => by have := hOw q hq; omega
  have hKs : Keep (fun q => q ≠ w.heap.size ∧ q ≠ w.heap.size + 1) w3 ((((w3.setCell ⟨w.heap.size, 0, none⟩ (.int .i64 y)).setCell ⟨w.heap.size + 1, 0, none⟩ (.int .i64 y)).setCell ⟨w.heap.size + 1, 1, none⟩ (.int .i64 C)).setCell ⟨w.heap.size + 1, 2, none⟩ (.slice a n c)) :=
   ((((Keep.refl _ w3).setCell (fun _ e => e.1 rfl) _).setCell (fun _ e => e.2 rfl) _).setCell (fun _ e => e.2 rfl) _).setCell (fun _ e => e.2 rfl) _
  go_wp2
  exact ret_cell T_mat rfl rfl rfl ((((bZ3.other (p := ⟨w.heap.size, 0, none⟩) (by simp) _).set 0 _).set 1 _).set 2 _) ⟨_, ⟨y, C, xs⟩, rfl, ⟨a, n, c, rfl, hO3.keep hKs (fun q hq _ => by have := hne q hq; omega), hx, hlo, hy, hCc⟩, by unfold bdM; simp only; omega, ⟨rfl, hsd⟩, hC3.keep hKs (fun q hq => by omega), hK33.trans (hKs.mono fun q hq h => by omega)⟩
 ·have hne : ∀ q, blk a = some q → q ≠ w.heap.size + 1 := fun q hq => by have := hOw q hq; omega
  obtain ⟨⟨e0, e1, e2⟩, ef0, ef1, ef2⟩ := bX.three
  have hltX := bX.lt
  by_cases x1 : x = 1
  ·subst x1
   by_cases hn0 : 0 < n
   ·obtain ⟨p, rfl⟩ := hO.at1 hn0
    have hpl := hlo p rfl
    have hpw := hOw p rfl
    have hq1 : w.heap.size ≠ g := by omega
    have hq2 : w.heap.size ≠ p := by omega
    go_wp2
    refine wp_region_segs (S := (Keep (fun q => q ≠ g ∧ q ≠ p) w2)) [([0, 1, 2], some 3), ([4], some 5)] P_mixed (by kernel_rfl) (fun _ _ _ _ _ h => h) (Keep.refl _ _).drew ?_
    show wpQuiet _ _ _ _ [_, _, _] _
    repeat (first | go_big_quiet_skip | (go_big_quiet_want; first | (apply quiet_load CT_ints; rfl; rfl; exact (fun w' hG => hG.cell ⟨hq1, hq2⟩ e2); go_big_quiet_on; simp only [Act.put, List.setIfInBounds_toArray, List.set_cons_succ, List.set_cons_zero]) | (go_big_quiet_op; first | go_big_quiet_on | (refine ⟨_, (fun _ _ => rfl), ?_⟩; go_big_quiet_on))))
    refine wpQuiet_nil ?_
    refine seg_go rfl (fun K hK => ?_)
    go_wp2_with fail
    refine (l1Odd_c g _ (hC.grow (Grow.refl _).drew)).mono ?_
    rintro e w3 ⟨y, hy, rfl, hC3, hK3⟩
    have hKa : Keep (fun q => q ≠ g) w2 w3 := ((Grow.refl w2).drew.any).trans hK3
    have bX3 := bX.keep hKa (by omega)
    have bZ3 := bZ.keep hKa (by omega)
    have hO3 := hO.keep hKa (fun q hq _ e => by simp at hq; omega)
    have hK33 := hKt.trans (hKa.mono fun q _ hq => hq.2)
    obtain ⟨x0v, hxk⟩ : ∃ x, xs[0]? = some x := ⟨_, List.getElem?_eq_getElem (by omega)⟩
    have hce := hO3.cell (j := 0) (c := .int .i64 x0v) (by unfold ints; rw [List.getElem?_map, hxk]; rfl)
    have hfr := hO3.free 0
    simp only at hce hfr
    clear e0 e1 e2 ef0 ef1 ef2 bX bZ hO hKt hK3 hC
    go_wp2_with fail
    refine hK _ _ ((hKa.mono fun q _ h => h.1)) ?_
    clear hK K
    show wpQuiet _ _ _ _ [_] _
    try (conv => arg 6; simp only [Act.put, List.setIfInBounds_toArray, List.set_cons_succ, List.set_cons_zero])
    repeat (first | go_big_quiet_skip | (go_big_quiet_want; first | (apply quiet_load CT_ints; rfl; rfl; exact (fun w' hG => hG.cell ⟨hq1, hq2⟩ e2); go_big_quiet_on; simp only [Act.put, List.setIfInBounds_toArray, List.set_cons_succ, List.set_cons_zero]) | (go_big_quiet_op; first | go_big_quiet_on | (refine ⟨_, (fun _ _ => rfl), ?_⟩; go_big_quiet_on))))
    refine wpQuiet_nil ?_
    refine seg_go rfl (fun K hK => ?_)
    go_wp2_with fail
    have hKb : Keep (fun q => q ≠ p) w3 (w3.setCell ⟨p, 0, none⟩ (.int .i64 y)) := (Keep.refl _ w3).setCell (fun _ e => e rfl) _
    refine hK _ _ (((hKa.mono fun q _ h => h.1).trans (hKb.mono fun q _ h => h.2))) ?_
    clear hK K
    refine wpSegs_nil ?_
    have hO9 := hO3.set 0 (.int .i64 y)
    rw [← ints_set] at hO9
    have bX := bX3.keep hKb (by omega)
    have bZ := bZ3.keep hKb (by omega)
    have hC := hC3.keep hKb (fun q hq e => by omega)
    have hKt := hK33.trans (hKb.mono fun q _ hq => by omega)
    have hx9 : ∀ z ∈ xs.set 0 y, I64 z := fun z hz => by
     rcases List.mem_or_eq_of_mem_set hz with h | rfl
     ·exact hx z h
     ·exact hy
    have hsd9 := hsd.set y
    have hl9 : (xs.set 0 y).length = n := by rw [List.length_set]; exact hl
    clear hO3 bX3 bZ3 hC3 hK33 hKb hKa hce hfr hx hxk hl hsd
    generalize w3.setCell ⟨p, 0, none⟩ (.int .i64 y) = wu at *
    generalize xs.set 0 y = xs at *
    have hx := hx9
    have hsd := hsd9
    have hO := hO9
    generalize (some ⟨p, 0, none⟩ : Option Addr) = a at *
    obtain ⟨⟨e0, e1, e2⟩, -⟩ := bX.three
    obtain ⟨⟨z0, z1, z2⟩, f0, f1, f2⟩ := bZ.three
    have hltX := bX.lt
    have hltZ := bZ.lt
    have hKs : Keep (fun q => q ≠ w.heap.size + 1) wu (((wu.setCell ⟨w.heap.size + 1, 0, none⟩ (.int .i64 R)).setCell ⟨w.heap.size + 1, 1, none⟩ (.int .i64 C)).setCell ⟨w.heap.size + 1, 2, none⟩ (.slice a n c)) :=
     (((Keep.refl _ wu).setCell (fun _ e => e rfl) _).setCell (fun _ e => e rfl) _).setCell (fun _ e => e rfl) _
    go_wp2
    exact ret_cell T_mat rfl rfl rfl (((bZ.set 0 _).set 1 _).set 2 _) ⟨_, ⟨R, C, xs⟩, rfl, ⟨a, n, c, rfl, hO.keep hKs (fun q hq _ e => hne q hq e), hx, hlo, hR, hCc⟩, by unfold bdM; simp only; omega, ⟨rfl, hsd⟩, hC.keep hKs (fun q hq e => by omega), hKt.trans (hKs.mono fun q hq h => by omega)⟩
   ·obtain rfl : n = 0 := by omega
    clear e0 e1 e2 ef0 ef1 ef2
    generalize w2 = wu at *
    obtain ⟨⟨e0, e1, e2⟩, -⟩ := bX.three
    obtain ⟨⟨z0, z1, z2⟩, f0, f1, f2⟩ := bZ.three
    have hltX := bX.lt
    have hltZ := bZ.lt
    have hKs : Keep (fun q => q ≠ w.heap.size + 1) wu (((wu.setCell ⟨w.heap.size + 1, 0, none⟩ (.int .i64 R)).setCell ⟨w.heap.size + 1, 1, none⟩ (.int .i64 C)).setCell ⟨w.heap.size + 1, 2, none⟩ (.slice a 0 c)) :=
     (((Keep.refl _ wu).setCell (fun _ e => e rfl) _).setCell (fun _ e => e rfl) _).setCell (fun _ e => e rfl) _
    go_wp2
    exact ret_cell T_mat rfl rfl rfl (((bZ.set 0 _).set 1 _).set 2 _) ⟨_, ⟨R, C, xs⟩, rfl, ⟨a, 0, c, rfl, hO.keep hKs (fun q hq _ e => hne q hq e), hx, hlo, hR, hCc⟩, by unfold bdM; simp only; omega, ⟨rfl, hsd⟩, hC.keep hKs (fun q hq e => by omega), hKt.trans (hKs.mono fun q hq h => by omega)⟩
  ·by_cases x2 : x = 2
   ·subst x2
    have hGa := (Grow.refl w2).alloc #[.int .i64 1] 3
    have hOa := hO.grow hGa
    have bXa := bX.grow hGa
    have bZa := bZ.grow hGa
    have hCa := hC.grow hGa
    have hKta := hKt.trans hGa.any
    have hsa := hGa.size
    clear hO hC hKt bX bZ
    have nX : blk a ≠ some w.heap.size := fun e => by have := hOw _ e; omega
    have nZ : blk a ≠ some (w.heap.size + 1) := fun e => by have := hOw _ e; omega
    go_wp2_with (first | (at_builtin; refine wpList_app rfl (.tmp 30) (.tmp 31) _ rfl T_ints rfl hOa rfl (Row.bAt6M (S := fun _ => True) 1 rfl (by unfold maxLen; omega) rfl (fun _ => trivial)) (by simp [Value.oneCell']) (by omega) (by unfold maxLen; omega) ?_; intro a3 c3 w6 hA6; have bX6 := bXa.keep hA6.keep nX; have bZ6 := bZa.keep hA6.keep nZ; obtain ⟨⟨y0, y1, y2⟩, yf0, yf1, yf2⟩ := bX6.three; obtain ⟨⟨z0, z1, z2⟩, f0, f1, f2⟩ := bZ6.three; have hltX6 := bX6.lt; have hltZ6 := bZ6.lt))
    have hC6 := hCa.keep hA6.keep (fun q hq e => by have := hlo q e; omega)
    have hKt6 := hKta.trans (hA6.keep.mono fun q _ hq e => by have := hlo q e; omega)
    have hlo6 : ∀ q, blk a3 = some q → B ≤ q := hA6.lo (by omega) hlo
    have hne6 : ∀ q, blk a3 = some q → q ≠ w.heap.size ∧ q ≠ w.heap.size + 1 := fun q hq => by
     rcases hA6.new with e | ⟨q', e, hq'⟩
     ·rw [e] at hq; have := hOw q hq; omega
     ·rw [e] at hq; obtain rfl := Option.some.inj hq; have := bZa.lt; omega
    have hO6 : Own w6 3 1 a3 (n + 1) c3 (ints (xs ++ [1])) := by have := hA6.own; simpa [ints] using this
    have hx6 : ∀ z ∈ xs ++ [1], I64 z := fun z hz => by
     rcases List.mem_append.1 hz with h | h
     ·exact hx z h
     ·rw [List.mem_singleton.1 h]; unfold I64; omega
    have hsd6 := hsd.one
    have hl6 : (xs ++ [1]).length = n + 1 := by simp [hl]
    clear hA6 bXa bZa hCa hKta hOa hGa hx hlo hne hOw hl hsd
    generalize xs ++ [1] = ys at *
    have hsd := hsd6
    have hKs : Keep (fun q => q ≠ w.heap.size ∧ q ≠ w.heap.size + 1) w6 ((((w6.setCell ⟨w.heap.size, 2, none⟩ (.slice a3 (n + 1) c3)).setCell ⟨w.heap.size + 1, 0, none⟩ (.int .i64 R)).setCell ⟨w.heap.size + 1, 1, none⟩ (.int .i64 C)).setCell ⟨w.heap.size + 1, 2, none⟩ (.slice a3 (n + 1) c3)) :=
     ((((Keep.refl _ w6).setCell (fun _ e => e.1 rfl) _).setCell (fun _ e => e.2 rfl) _).setCell (fun _ e => e.2 rfl) _).setCell (fun _ e => e.2 rfl) _
    exact ret_cell T_mat rfl rfl rfl ((((bZ6.other (p := ⟨w.heap.size, 2, none⟩) (by simp) _).set 0 _).set 1 _).set 2 _) ⟨_, rfl, ⟨R, C, ys⟩, ⟨a3, n + 1, c3, rfl, hO6.keep hKs (fun q hq _ => by have := hne6 q hq; omega), hx6, hlo6, hR, hCc⟩, by unfold bdM; simp only; omega, ⟨rfl, hsd⟩, hC6.keep hKs (fun q hq => by omega), hKt6.trans (hKs.mono fun q hq h => by omega)⟩
   ·clear e0 e1 e2 ef0 ef1 ef2
    generalize w2 = wu at *
    obtain ⟨⟨e0, e1, e2⟩, -⟩ := bX.three
    obtain ⟨⟨z0, z1, z2⟩, f0, f1, f2⟩ := bZ.three
    have hltX := bX.lt
    have hltZ := bZ.lt
    have hKs : Keep (fun q => q ≠ w.heap.size + 1) wu (((wu.setCell ⟨w.heap.size + 1, 0, none⟩ (.int .i64 R)).setCell ⟨w.heap.size + 1, 1, none⟩ (.int .i64 C)).setCell ⟨w.heap.size + 1, 2, none⟩ (.slice a n c)) :=
     (((Keep.refl _ wu).setCell (fun _ e => e rfl) _).setCell (fun _ e => e rfl) _).setCell (fun _ e => e rfl) _
    go_wp2
    exact ret_cell T_mat rfl rfl rfl (((bZ.set 0 _).set 1 _).set 2 _) ⟨_, ⟨R, C, xs⟩, rfl, ⟨a, n, c, rfl, hO.keep hKs (fun q hq _ e => hne q hq e), hx, hlo, hR, hCc⟩, by unfold bdM; simp only; omega, ⟨rfl, hsd⟩, hC.keep hKs (fun q hq e => by omega), hKt.trans (hKs.mono fun q hq h => by omega)⟩
def DPostK (w0 : World) (g : Nat) (v : Value) (w' : World) : Prop := ∃ m, OM w' (fun q => w0.heap.size ≤ q) v m ∧ bdM m ≤ 1025 ∧ (m.cols ≤ 3 ∧ 1 ≤ m.cols ∧ Sp m.cells) ∧ Cur w' g ∧ Keep (fun q => q ≠ g) w0 w'
theorem l30Relations_k (g : Nat) (w : World) (h : Cur w g) :
  Calls Tryz.prog 43 #[.pointer (some ⟨g, 0, none⟩)] w fun e w' => ∃ v, e = .returned v ∧ DPostK w g v w' := by
 have hlt := h.lt
 have hG1 := (Grow.refl w).alloc #[.int .i64 0, .int .i64 0, .slice none 0 0] 26
 have bZ := Blk.new w #[.int .i64 0, .int .i64 0, .slice none 0 0] 26
 go_enter Tryz.func43, Tryz.ntmps43
 go_wp2_with fail
 refine (l1Below_c g 3 _ (h.grow hG1) (by omega)).mono ?_
 rintro e w1 ⟨y, hy, rfl, hC1, hK1⟩
 go_wp2_with fail
 refine (l1Below_c g 4 _ hC1 (by omega)).mono ?_
 rintro e w2 ⟨x, hx, rfl, hC2, hK2⟩
 have hKa := hG1.any.trans (hK1.trans hK2)
 have bZ2 := bZ.keep (hK1.trans hK2) (by omega)
 have hs2 : w.heap.size < w2.heap.size := bZ2.lt
 clear bZ hC1 hK1 hK2
 go_wp2_with fail
 rw [show ((1 : Int) + (y : Int)) = ((1 + y : Nat) : Int) by omega]
 refine (l3DrawG_c g x (1 + y) 4 _ hC2 (by omega) (by omega) (by omega)).mono ?_
 rintro e w3 ⟨a, xs, rfl, hO, hxr, hlo, hC3, hK3⟩
 have hxl : xs.length = x * (1 + y) := by simpa using hO.len
 have hxy : x * (1 + y) ≤ 4 * 4 := Nat.mul_le_mul (by omega) (by omega)
 have hM : OM w3 (fun q => w.heap.size + 1 ≤ q) (.agg #[.int .i64 (x : Int), .int .i64 ((1 + y : Nat) : Int), .slice a (x * (1 + y)) (x * (1 + y))]) ⟨(x : Int), ((1 + y : Nat) : Int), xs⟩ :=
  ⟨a, _, _, rfl, hO, fun z hz => by have := hxr z hz; unfold I64; omega, fun q hq => by have := hlo q hq; omega, by show I64 (x : Int); unfold I64; omega, by show I64 ((1 + y : Nat) : Int); unfold I64; omega⟩
 have bZ3 := bZ2.keep hK3 (by omega)
 have hKb := hKa.trans hK3
 have hs3 := hK3.size
 go_wp2_with fail
 refine (l3Spoil_k (B := w.heap.size + 1) g _ _ _ hC3 hM (by unfold bdM; simp only; omega) (by omega) (by omega) (Sp.of fun z hz => by have := hxr z hz; omega)).mono ?_
 rintro e w4 ⟨u, m', rfl, hM4, hb4, ⟨hcl, hsp⟩, hC4, hK4⟩
 have hcl2 : m'.cols ≤ 3 ∧ 1 ≤ m'.cols := by rw [hcl]; simp only; omega
 have Hs := Lib.hid (show m'.cols ≤ 3 ∧ 1 ≤ m'.cols ∧ Sp m'.cells from ⟨hcl2.1, hcl2.2, hsp⟩)
 clear hcl hcl2 hsp
 have bZ4 := bZ3.keep hK4 ⟨by omega, by omega⟩
 have hK5 : Keep (fun q => q ≠ g) w w4 := by
  have h1 : Keep (fun q => q < w.heap.size + 1 ∧ q ≠ g) w w3 := hKb.mono fun q _ hq => hq.2
  exact (h1.trans hK4).mono fun q hq hne => ⟨by omega, hne⟩
 obtain ⟨ma, mn, mc, rfl, o1, o2, o3, o4, o5⟩ := hM4
 obtain ⟨⟨z0, z1, z2⟩, f0, f1, f2⟩ := bZ4.three
 have hltZ := bZ4.lt
 have hKs : Keep (fun q => q ≠ w.heap.size) w4 (((w4.setCell ⟨w.heap.size, 0, none⟩ (.int .i64 m'.rows)).setCell ⟨w.heap.size, 1, none⟩ (.int .i64 m'.cols)).setCell ⟨w.heap.size, 2, none⟩ (.slice ma mn mc)) :=
  (((Keep.refl _ w4).setCell (fun _ e => e rfl) _).setCell (fun _ e => e rfl) _).setCell (fun _ e => e rfl) _
 clear bZ2 bZ3 hM hO hC2 hC3 hKa hKb hK3 hK4
 go_wp2
 exact ret_cell T_mat rfl rfl rfl (((bZ4.set 0 _).set 1 _).set 2 _) ⟨_, rfl, m', ⟨ma, mn, mc, rfl, o1.keep hKs (fun q hq _ e => by have := o3 q hq; omega), o2, fun q hq => by have := o3 q hq; omega, o4, o5⟩, hb4, Hs.out, hC4.keep hKs (fun q hq e => by omega), ((hK5.setCell (fun e => absurd e (Nat.lt_irrefl _)) _).setCell (fun e => absurd e (Nat.lt_irrefl _)) _).setCell (fun e => absurd e (Nat.lt_irrefl _)) _⟩
end Go.Proofs.YtoiblknchcoecaaGreat

namespace Go.Proofs.YtoiblknchcoecaaGreat
open Go.RowKit
def Sr (m : Mat) : Prop := m.cols ≤ 3 ∧ 1 ≤ m.cols ∧ Sp m.cells
def Sd (m : Mat) : Prop := m.cols ≤ 3 ∧ ∀ i : Nat, m.cols ≤ (i : Int) → -40 ≤ m.cells.getD i 0 ∧ m.cells.getD i 0 ≤ 40
theorem Sr.sd {m : Mat} (h : Sr m) : Sd m := ⟨h.1, fun i hi => by have := h.2.1; have := h.2.2 i (by omega); omega⟩
theorem Sr.stack {m d : Mat} (h : Sr m) (hd : ∀ x ∈ d.cells, -4 ≤ x ∧ x ≤ 4) : Sd (stackB m d) := by
 cases hs : stackOk m d with
 | false => rw [(stack_no hs).2]; exact ⟨by simp, fun i _ => by simp⟩
 | true =>
  rw [(stack_yes hs).2]
  refine ⟨h.1, fun i hi => ?_⟩
  have h1 := h.2.1
  have hi' : m.cols ≤ (i : Int) := hi
  have := (h.2.2.app hd) i (by omega)
  show -40 ≤ (m.cells ++ d.cells).getD i 0 ∧ (m.cells ++ d.cells).getD i 0 ≤ 40
  omega
theorem sm_bd {f : Nat → Int} {k : Int} : ∀ {n : Nat}, (∀ q, q < n → -k ≤ f q ∧ f q ≤ k) → -(k * n) ≤ sm n f ∧ sm n f ≤ k * n
 | 0, _ => by simp [sm]
 | n + 1, h => by
  have h1 := sm_bd (n := n) fun q hq => h q (by omega)
  have h2 := h n (by omega)
  simp only [sm]
  rw [Int.natCast_add, Int.mul_add]
  omega
theorem mul_bd {a b p q : Int} (ha : -p ≤ a ∧ a ≤ p) (hb : -q ≤ b ∧ b ≤ q) : -(p * q) ≤ a * b ∧ a * b ≤ p * q := by
 have h1 : a.natAbs ≤ p.natAbs := by omega
 have h2 : b.natAbs ≤ q.natAbs := by omega
 have h3 := Nat.mul_le_mul h1 h2
 rw [← Int.natAbs_mul, ← Int.natAbs_mul] at h3
 have h4 : 0 ≤ p * q := Int.mul_nonneg (by omega) (by omega)
 omega
theorem Sr.mul {m d : Mat} (h : Sr m) (hF : mulFit m d = true) (hc : d.cols ≤ 3) (hd : ∀ x ∈ d.cells, -3 ≤ x ∧ x ≤ 3) : Sd (mulM m d) := by
 unfold mulFit at hF
 simp only [Bool.and_eq_true, beq_iff_eq] at hF
 obtain ⟨⟨h1, h2⟩, h3⟩ := hF
 obtain ⟨R, C, a1, a2, -, -, a3, -⟩ := isMatB_shape h1
 obtain ⟨C', D, b1, b2, -, -, b3, -⟩ := isMatB_shape h2
 obtain rfl : C' = C := by omega
 have ec : (mulM m d).cells = mRows m.cells d.cells C' D R R := by
  show mRows m.cells d.cells m.cols.toNat d.cols.toNat m.rows.toNat m.rows.toNat = _
  rw [a1, a2, b2]; rfl
 refine ⟨hc, fun i hi => ?_⟩
 rw [ec]
 have hi' : (D : Int) ≤ (i : Int) := by rw [← b2]; exact hi
 by_cases hlt : i < R * D
 ·have hD : 0 < D := Nat.pos_of_ne_zero fun e => by rw [e, Nat.mul_zero] at hlt; omega
  have e1 : i / D * D + i % D = i := by rw [Nat.mul_comm]; exact Nat.div_add_mod i D
  have h4 : i / D < R := Nat.div_lt_of_lt_mul (by rw [Nat.mul_comm]; exact hlt)
  have h5 := Nat.mod_lt i hD
  have h6 : 1 ≤ i / D := (Nat.le_div_iff_mul_le hD).2 (by omega)
  have h7 := mRows_cell (a := m.cells) (b := d.cells) (n := C') (c := D) (r := R) (Nat.le_refl R) (i / D) (i % D) h4 h5
  unfold cell at h7
  rw [e1] at h7
  rw [h7]
  have hC3 : C' ≤ 3 := by have := h.1; omega
  have hC1 : 1 ≤ C' := by have := h.2.1; omega
  have h8 : ∀ q, q < C' → -12 ≤ m.cells.getD (i / D * C' + q) 0 * d.cells.getD (q * D + i % D) 0 ∧ m.cells.getD (i / D * C' + q) 0 * d.cells.getD (q * D + i % D) 0 ≤ 12 := fun q hq => by
   have h9 := h.2.2 (i / D * C' + q) (by have := Nat.mul_le_mul h6 hC1; omega)
   have h10 : -3 ≤ d.cells.getD (q * D + i % D) 0 ∧ d.cells.getD (q * D + i % D) 0 ≤ 3 := by
    rw [List.getD_eq_getElem?_getD]
    cases hx : d.cells[q * D + i % D]? with
    | none => simp
    | some x => exact hd x (List.mem_of_getElem? hx)
   exact mul_bd h9 h10
  have h11 := sm_bd (k := 12) h8
  have h12 : mm C' (fun i j => m.cells.getD (i * C' + j) 0) (fun i j => d.cells.getD (i * D + j) 0) (i / D) (i % D) = sm C' fun q => m.cells.getD (i / D * C' + q) 0 * d.cells.getD (q * D + i % D) 0 := rfl
  show -40 ≤ mm C' (fun i j => m.cells.getD (i * C' + j) 0) (fun i j => d.cells.getD (i * D + j) 0) (i / D) (i % D) ∧ _ ≤ (40 : Int)
  rw [h12]
  omega
 ·have hl : (mRows m.cells d.cells C' D R R).length = R * D := mRows_len _ _ _ _ _ _
  rw [List.getD_eq_getElem?_getD, List.getElem?_eq_none (by omega)]
  simp
def OMk (B : Nat) (P : Mat → Prop) (w' : World) (v : Value) : Prop := ∃ m a n c, v = .agg #[.int .i64 m.rows, .int .i64 m.cols, .slice a n c] ∧ OMx B w' a n c m ∧ P m
theorem OMx.omk {B B' n c : Nat} {P : Mat → Prop} {w : World} {a : Option Addr} {m : Mat} (h : OMx B w a n c m) (hB : B' ≤ B) (hP : P m) : OMk B' P w (.agg #[.int .i64 m.rows, .int .i64 m.cols, .slice a n c]) :=
 ⟨m, a, n, c, rfl, ⟨h.own, h.rng, fun q hq => Nat.le_trans hB (h.low q hq), h.rows, h.cols, h.bd⟩, hP⟩
def MPostK (w0 : World) (g : Nat) (v1 v2 v3 : Value) (w' : World) : Prop := OMk w0.heap.size Sd w' v1 ∧ OMk w0.heap.size Sd w' v2 ∧ OMs w0.heap.size w' v3 ∧ Cur w' g ∧ Keep (fun q => q ≠ g) w0 w'
theorem relV_k (B g : Nat) (w : World) (h : Cur w g) (hB : B ≤ w.heap.size) :
  Calls Tryz.prog 43 #[.pointer (some ⟨g, 0, none⟩)] w fun e w' => ∃ a n c m, e = .returned (.agg #[.int .i64 m.rows, .int .i64 m.cols, .slice a n c]) ∧ OMx B w' a n c m ∧ Sr m ∧ Cur w' g ∧ Keep (fun q => q ≠ g) w w' := by
 refine (l30Relations_k g w h).mono ?_
 rintro e w' ⟨v, rfl, m, hM, hb, hSr, hC, hKp⟩
 obtain ⟨a, n, c, rfl, hx⟩ := OMx.of hM (fun q hq => Nat.le_trans hB hq) hb
 exact ⟨a, n, c, m, rfl, hx, hSr, hC, hKp⟩
theorem l3DrawV_k (B g r c k : Nat) (w : World) (h : Cur w g) (hr : r ≤ 24) (hc : c ≤ 24) (hk : k ≤ 100) (hB : B ≤ w.heap.size) :
  Calls Tryz.prog 48 #[.pointer (some ⟨g, 0, none⟩), .int .i64 r, .int .i64 c, .int .i64 k] w fun e w' => ∃ a n l m, e = .returned (.agg #[.int .i64 m.rows, .int .i64 m.cols, .slice a n l]) ∧ OMx B w' a n l m ∧ m.rows = (r : Int) ∧ m.cols = (c : Int) ∧ isMatB m = true ∧ (∀ x ∈ m.cells, -(k : Int) ≤ x ∧ x ≤ k) ∧ Cur w' g ∧ Keep (fun q => q ≠ g) w w' := by
 refine (l3DrawG_c g r c k w h hr hc hk).mono ?_
 rintro e w' ⟨a, xs, rfl, hO, hx, hlo, hC, hKp⟩
 have hl : xs.length = r * c := by simpa using hO.len
 have hrc : r * c ≤ 24 * 24 := Nat.mul_le_mul hr hc
 exact ⟨a, _, _, ⟨r, c, xs⟩, rfl, ⟨hO, fun x h => by have := hx x h; unfold I64; omega, fun q hq => Nat.le_trans hB (hlo q hq), by show I64 (r : Int); unfold I64; omega, by show I64 (c : Int); unfold I64; omega, by show xs.length ≤ 1025; omega⟩, rfl, rfl,
  isMatB_ok hr hc hl (fun x h => by have := hx x h; omega), hx, hC, hKp⟩
theorem l3DrawR_k (B g r c k : Nat) (ri : Int) (hri : ri = (r : Int)) (w : World) (h : Cur w g) (hr : r ≤ 24) (hc : c ≤ 24) (hk : k ≤ 100) (hB : B ≤ w.heap.size) :
  Calls Tryz.prog 48 #[.pointer (some ⟨g, 0, none⟩), .int .i64 ri, .int .i64 c, .int .i64 k] w fun e w' => ∃ a n l m, e = .returned (.agg #[.int .i64 m.rows, .int .i64 m.cols, .slice a n l]) ∧ OMx B w' a n l m ∧ m.rows = (r : Int) ∧ m.cols = (c : Int) ∧ isMatB m = true ∧ (∀ x ∈ m.cells, -(k : Int) ≤ x ∧ x ≤ k) ∧ Cur w' g ∧ Keep (fun q => q ≠ g) w w' := by
 subst hri
 exact l3DrawV_k B g r c k w h hr hc hk hB
theorem l3DrawI_k (B g r c k : Nat) (ci : Int) (hci : ci = (c : Int)) (w : World) (h : Cur w g) (hr : r ≤ 24) (hc : c ≤ 24) (hk : k ≤ 100) (hB : B ≤ w.heap.size) :
  Calls Tryz.prog 48 #[.pointer (some ⟨g, 0, none⟩), .int .i64 r, .int .i64 ci, .int .i64 k] w fun e w' => ∃ a n l m, e = .returned (.agg #[.int .i64 m.rows, .int .i64 m.cols, .slice a n l]) ∧ OMx B w' a n l m ∧ m.rows = (r : Int) ∧ m.cols = (c : Int) ∧ isMatB m = true ∧ (∀ x ∈ m.cells, -(k : Int) ≤ x ∧ x ≤ k) ∧ Cur w' g ∧ Keep (fun q => q ≠ g) w w' := by
 subst hci
 exact l3DrawV_k B g r c k w h hr hc hk hB
def OMdK (B : Nat) (C : Int) (w : World) (v : Value) : Prop := ∃ m a n c, v = .agg #[.int .i64 m.rows, .int .i64 m.cols, .slice a n c] ∧ OMx B w a n c m ∧ m.rows = C ∧ isMatB m = true ∧ m.cols ≤ 3 ∧ ∀ x ∈ m.cells, -3 ≤ x ∧ x ≤ 3
def DrPostK (B : Nat) (C : Int) : Nat → Value → World → Prop
 | 4, v, _ => ∃ y : Nat, (y < 3 ∨ y = 0) ∧ v = .int .i64 (y : Int)
 | 5, v, _ => ∃ y : Nat, y ≤ 3 ∧ v = .int .i64 (y : Int)
 | 6, v, w => OMdK B C w v
 | 7, v, w => ∃ g, v = .pointer (some ⟨g, 0, none⟩) ∧ B ≤ g ∧ Blk w g #[.int .i64 0, .int .i64 0, .slice none 0 0] 26
 | _, _, _ => True
theorem DrPostK.stays {B g : Nat} {C : Int} (hg : g < B) : ∀ i v w w', Keep (fun q => q ≠ g) w w' → DrPostK B C i v w → DrPostK B C i v w' := fun i v w w' hG h => by
 have hS : ∀ q, B ≤ q → q ≠ g := fun q hq => by omega
 unfold DrPostK at *
 split at h
 ·exact h
 ·exact h
 ·obtain ⟨m, a, n, c, h1, h2, h3⟩ := h; exact ⟨m, a, n, c, h1, h2.keep hG hS, h3⟩
 ·obtain ⟨q, h1, h2, h3⟩ := h; exact ⟨q, h1, h2, h3.keep hG (hS q h2)⟩
 ·trivial
theorem l31Map_k (g : Nat) (w : World) (h : Cur w g) :
  Calls Tryz.prog 20 #[.pointer (some ⟨g, 0, none⟩)] w fun e w' => ∃ v1 v2 v3, e = .returned (.tuple #[v1, v2, v3]) ∧ MPostK w g v1 v2 v3 w' := by
 have hlt := h.lt
 obtain ⟨w1, hw1⟩ : ∃ w1, w1 = ((w.alloc (.cells #[.int .i64 0, .int .i64 0, .slice none 0 0] 26)).alloc (.cells #[.int .i64 0, .int .i64 0, .slice none 0 0] 26)).alloc (.cells #[.int .i64 0, .int .i64 0, .slice none 0 0] 26) := ⟨_, rfl⟩
 have hG1 : Grow w w1 := by rw [hw1]; exact (((Grow.refl w).alloc _ _).alloc _ _).alloc _ _
 have b0 : Blk w1 w.heap.size #[.int .i64 0, .int .i64 0, .slice none 0 0] 26 := by rw [hw1]; exact ((Blk.new _ _ _).alloc _).alloc _
 have b1 : Blk w1 (w.heap.size + 1) #[.int .i64 0, .int .i64 0, .slice none 0 0] 26 := by rw [hw1]; exact (Blk.newAt _ _ _ (by simp)).alloc _
 have b2 : Blk w1 (w.heap.size + 1 + 1) #[.int .i64 0, .int .i64 0, .slice none 0 0] 26 := by rw [hw1]; exact Blk.newAt _ _ _ (by simp)
 have hC1 := h.grow hG1
 have hs1 := b2.lt
 go_enter Tryz.func20, Tryz.ntmps20
 go_wp2_with fail
 rw [← hw1]
 refine (relV_k (w.heap.size + 3) g _ hC1 (by omega)).mono ?_
 rintro e w2 ⟨ra, rn, rc, m, rfl, pR, hSr, hC2, hK2⟩
 have Hr := Lib.hid hSr
 clear hSr
 have hs2 := hK2.size
 have hRlt : ∀ q, blk ra = some q → q < w2.heap.size := fun q hq => pR.own.lt hq
 obtain ⟨w3, hw3⟩ : ∃ w3, w3 = w2.alloc (.cells #[.int .i64 m.rows, .int .i64 m.cols, .slice ra rn rc] 26) := ⟨_, rfl⟩
 have hG3 : Grow w2 w3 := by rw [hw3]; exact (Grow.refl w2).alloc _ _
 have bR : Blk w3 w2.heap.size #[.int .i64 m.rows, .int .i64 m.cols, .slice ra rn rc] 26 := by rw [hw3]; exact Blk.new _ _ _
 have hC := hC2.grow hG3
 replace b0 := (b0.keep hK2 (by omega)).grow hG3
 replace b1 := (b1.keep hK2 (by omega)).grow hG3
 replace b2 := (b2.keep hK2 (by omega)).grow hG3
 have hKp := (hG1.any.trans hK2).trans hG3.any
 replace pR := pR.grow hG3
 have hltR := bR.lt
 obtain ⟨⟨e0, e1, e2⟩, -⟩ := bR.three
 clear hC1 hC2 h hG1 hK2 hG3
 go_wp2_with fail
 rw [← hw3]
 clear hw1 hw3
 refine (sIsMatrix_c pR.vm (by have := pR.bd; omega)).mono ?_
 rintro e w4 ⟨rfl, hG4⟩
 replace b0 := b0.grow hG4
 replace b1 := b1.grow hG4
 replace b2 := b2.grow hG4
 replace bR := bR.grow hG4
 replace pR := pR.grow hG4
 replace hC := hC.grow hG4
 replace hKp := hKp.trans hG4.any
 replace hltR := bR.lt
 clear e0 e1 e2 hG4
 obtain ⟨⟨e0, e1, e2⟩, -⟩ := bR.three
 cases hmb : isMatB m with
 | false =>
  have Hmb := Lib.hid hmb; clear hmb
  go_wp2_with fail
  refine (sIsMatrix_c pR.vm (by have := pR.bd; omega)).mono ?_
  rintro e w5 ⟨rfl, hG5⟩
  rw [Hmb.out]
  replace b0 := b0.grow hG5
  replace b1 := b1.grow hG5
  replace b2 := b2.grow hG5
  replace bR := bR.grow hG5
  replace pR := pR.grow hG5
  replace hC := hC.grow hG5
  replace hKp := hKp.trans hG5.any
  replace hltR := bR.lt
  clear e0 e1 e2 hG5
  obtain ⟨⟨e0, e1, e2⟩, -⟩ := bR.three
  go_wp2_with fail
  refine (relV_k (w.heap.size + 3) g _ hC (by omega)).mono ?_
  rintro e wv ⟨sa, sn, sc, ms, rfl, pS, hSs, hCv, hKv⟩
  have Hs := Lib.hid hSs
  clear hSs
  have hsv := hKv.size
  replace b0 := b0.keep hKv (by omega)
  replace b1 := b1.keep hKv (by omega)
  replace b2 := b2.keep hKv (by omega)
  replace bR := bR.keep hKv (by omega)
  replace pR := pR.keep hKv (fun q hq => by omega)
  replace hKp := hKp.trans hKv
  clear hC
  go_wp2_with fail
  obtain ⟨wx, hwx⟩ : ∃ wx, wx = wv.alloc (.cells #[.int .i64 ms.rows, .int .i64 ms.cols, .slice sa sn sc] 26) := ⟨_, rfl⟩
  have hGx : Grow wv wx := by rw [hwx]; exact (Grow.refl wv).alloc _ _
  have bS : Blk wx wv.heap.size #[.int .i64 ms.rows, .int .i64 ms.cols, .slice sa sn sc] 26 := by rw [hwx]; exact Blk.new _ _ _
  have hC := hCv.grow hGx
  replace b0 := b0.grow hGx
  replace b1 := b1.grow hGx
  replace b2 := b2.grow hGx
  replace bR := bR.grow hGx
  replace pR := pR.grow hGx
  replace pS := pS.grow hGx
  replace hKp := hKp.trans hGx.any
  have hltv := bR.lt
  have hltS := bS.lt
  obtain ⟨⟨e0, e1, e2⟩, -⟩ := bR.three
  obtain ⟨⟨d0, d1, d2⟩, -⟩ := bS.three
  rw [← hwx]
  clear hwx hGx hKv hCv
  have nR : w2.heap.size ≠ g ∧ w2.heap.size ≠ w.heap.size ∧ w2.heap.size ≠ w.heap.size + 1 ∧ w2.heap.size ≠ w.heap.size + 1 + 1 := ⟨by omega, by omega, by omega, by omega⟩
  have nS : wv.heap.size ≠ g ∧ wv.heap.size ≠ w.heap.size ∧ wv.heap.size ≠ w.heap.size + 1 ∧ wv.heap.size ≠ w.heap.size + 1 + 1 := ⟨by omega, by omega, by omega, by omega⟩
  refine wp_region_segs (S := (Keep (fun q => q ≠ g ∧ q ≠ w.heap.size ∧ q ≠ w.heap.size + 1 ∧ q ≠ w.heap.size + 1 + 1) wx)) [([0, 1, 2, 3, 4, 5, 6, 7, 8, 9, 10], some 11), ([], some 12), ([], some 13), ([], some 14)] P_mixed (by kernel_rfl) (fun _ _ _ _ _ h => h) (Keep.refl _ _).drew ?_
  show wpQuiet _ _ _ _ [_, _, _, _, _, _, _, _, _, _, _] _
  repeat (first | go_big_quiet_skip | (go_big_quiet_want; first | (apply quiet_load3 T_mat; rfl; rfl; exact (fun w' hG => bR.keep hG nR); go_big_quiet_on; simp only [Act.put, List.setIfInBounds_toArray, List.set_cons_succ, List.set_cons_zero]) | (apply quiet_load3 T_mat; rfl; rfl; exact (fun w' hG => bS.keep hG nS); go_big_quiet_on; simp only [Act.put, List.setIfInBounds_toArray, List.set_cons_succ, List.set_cons_zero]) | (apply quiet_load CT_int; rfl; rfl; exact (fun w' hG => hG.cell nR e1); go_big_quiet_on; simp only [Act.put, List.setIfInBounds_toArray, List.set_cons_succ, List.set_cons_zero]) | (apply quiet_load CT_int; rfl; rfl; exact (fun w' hG => hG.cell nS d1); go_big_quiet_on; simp only [Act.put, List.setIfInBounds_toArray, List.set_cons_succ, List.set_cons_zero]) | (go_big_quiet_op; first | go_big_quiet_on | (refine ⟨_, (fun _ _ => rfl), ?_⟩; go_big_quiet_on))))
  refine wpQuiet_nil ?_
  refine seg_go rfl (fun K hK => ?_)
  obtain ⟨x, hx, ex⟩ := mm4 m.cols
  obtain ⟨y, hy, ey⟩ := mm4 ms.cols
  rw [ex, ey]
  generalize (if 4 < m.cols then (4 : Int) else m.cols) = ux
  generalize (if 4 < ms.cols then (4 : Int) else ms.cols) = uy
  clear ex ey
  go_wp2_with fail
  refine (l3DrawV_k (w.heap.size + 3) g x y 3 _ (hC.grow (Grow.refl _).drew) (by omega) (by omega) (by omega) (by show _ ≤ wx.heap.size; omega)).mono ?_
  rintro e wa ⟨fa, fn, fc, mf, rfl, p3, -, -, -, -, hCa, hKa⟩
  have hKd : Keep (fun q => q ≠ g) wx wa := ((Grow.refl wx).drew.any).trans hKa
  have r0 := b0.keep hKd (by omega)
  have r1 := b1.keep hKd (by omega)
  have r2 := b2.keep hKd (by omega)
  have p1 := pR.keep hKd (fun q hq => by omega)
  have p2 := pS.keep hKd (fun q hq => by omega)
  have hKw := hKp.trans hKd
  have hS : Keep (fun q => q ≠ g ∧ q ≠ w.heap.size ∧ q ≠ w.heap.size + 1 ∧ q ≠ w.heap.size + 1 + 1) wx wa := hKd.mono fun q _ h => h.1
  clear hC hKa b0 b1 b2 pR pS bR bS e0 e1 e2 d0 d1 d2
  go_wp2_with fail
  refine hK _ _ (hS) ?_
  clear hK K
  show wpQuiet _ _ _ _ [] _
  try (conv => arg 6; simp only [Act.put, List.setIfInBounds_toArray, List.set_cons_succ, List.set_cons_zero])
  refine wpQuiet_nil ?_
  refine seg_go rfl (fun K hK => ?_)
  obtain ⟨⟨u0, u1, u2⟩, f0, f1, f2⟩ := r0.three
  have hl0 := r0.lt
  go_wp2_with fail
  have k0 : Keep (fun q => q ≠ w.heap.size) wa (((wa.setCell ⟨w.heap.size, 0, none⟩ (.int .i64 m.rows)).setCell ⟨w.heap.size, 1, none⟩ (.int .i64 m.cols)).setCell ⟨w.heap.size, 2, none⟩ (.slice ra rn rc)) :=
   (((Keep.refl _ wa).setCell (fun _ e => e rfl) _).setCell (fun _ e => e rfl) _).setCell (fun _ e => e rfl) _
  have s0 := ((r0.set 0 (.int .i64 m.rows)).set 1 (.int .i64 m.cols)).set 2 (.slice ra rn rc)
  have s1 := r1.keep k0 (by omega)
  have s2 := r2.keep k0 (by omega)
  have z1 := p1.keep k0 (fun q hq => by omega)
  have z2 := p2.keep k0 (fun q hq => by omega)
  have z3 := p3.keep k0 (fun q hq => by omega)
  have hCb := hCa.keep k0 (fun q hq => by omega)
  have hKb := hKw.thru k0 (fun q hq _ => by omega)
  have hS0 := hS.trans (k0.mono fun q _ hb => hb.2.1)
  refine hK _ _ (hS0) ?_
  clear hK K
  generalize (((wa.setCell ⟨w.heap.size, 0, none⟩ (.int .i64 m.rows)).setCell ⟨w.heap.size, 1, none⟩ (.int .i64 m.cols)).setCell ⟨w.heap.size, 2, none⟩ (.slice ra rn rc)) = wb at *
  clear u0 u1 u2 f0 f1 f2 r0 r1 r2 p1 p2 p3 hl0
  show wpQuiet _ _ _ _ [] _
  try (conv => arg 6; simp only [Act.put, List.setIfInBounds_toArray, List.set_cons_succ, List.set_cons_zero])
  refine wpQuiet_nil ?_
  refine seg_go rfl (fun K hK => ?_)
  obtain ⟨⟨u0, u1, u2⟩, f0, f1, f2⟩ := s1.three
  have hl0 := s1.lt
  go_wp2_with fail
  have k1 : Keep (fun q => q ≠ w.heap.size + 1) wb (((wb.setCell ⟨w.heap.size + 1, 0, none⟩ (.int .i64 ms.rows)).setCell ⟨w.heap.size + 1, 1, none⟩ (.int .i64 ms.cols)).setCell ⟨w.heap.size + 1, 2, none⟩ (.slice sa sn sc)) :=
   (((Keep.refl _ wb).setCell (fun _ e => e rfl) _).setCell (fun _ e => e rfl) _).setCell (fun _ e => e rfl) _
  have t1 := ((s1.set 0 (.int .i64 ms.rows)).set 1 (.int .i64 ms.cols)).set 2 (.slice sa sn sc)
  have t0 := s0.keep k1 (by omega)
  have t2 := s2.keep k1 (by omega)
  have y1 := z1.keep k1 (fun q hq => by omega)
  have y2 := z2.keep k1 (fun q hq => by omega)
  have y3 := z3.keep k1 (fun q hq => by omega)
  have hCc := hCb.keep k1 (fun q hq => by omega)
  have hKc := hKb.thru k1 (fun q hq _ => by omega)
  have hS1 := hS0.trans (k1.mono fun q _ hb => hb.2.2.1)
  refine hK _ _ (hS1) ?_
  clear hK K
  generalize (((wb.setCell ⟨w.heap.size + 1, 0, none⟩ (.int .i64 ms.rows)).setCell ⟨w.heap.size + 1, 1, none⟩ (.int .i64 ms.cols)).setCell ⟨w.heap.size + 1, 2, none⟩ (.slice sa sn sc)) = wc at *
  clear u0 u1 u2 f0 f1 f2 s0 s1 s2 z1 z2 z3 hl0
  show wpQuiet _ _ _ _ [] _
  try (conv => arg 6; simp only [Act.put, List.setIfInBounds_toArray, List.set_cons_succ, List.set_cons_zero])
  refine wpQuiet_nil ?_
  refine seg_go rfl (fun K hK => ?_)
  obtain ⟨⟨u0, u1, u2⟩, f0, f1, f2⟩ := t2.three
  have hl0 := t2.lt
  go_wp2_with fail
  have k2 : Keep (fun q => q ≠ w.heap.size + 1 + 1) wc (((wc.setCell ⟨w.heap.size + 1 + 1, 0, none⟩ (.int .i64 mf.rows)).setCell ⟨w.heap.size + 1 + 1, 1, none⟩ (.int .i64 mf.cols)).setCell ⟨w.heap.size + 1 + 1, 2, none⟩ (.slice fa fn fc)) :=
   (((Keep.refl _ wc).setCell (fun _ e => e rfl) _).setCell (fun _ e => e rfl) _).setCell (fun _ e => e rfl) _
  have q2 := ((t2.set 0 (.int .i64 mf.rows)).set 1 (.int .i64 mf.cols)).set 2 (.slice fa fn fc)
  have q0 := t0.keep k2 (by omega)
  have q1 := t1.keep k2 (by omega)
  have x1 := y1.keep k2 (fun q hq => by omega)
  have x2 := y2.keep k2 (fun q hq => by omega)
  have x3 := y3.keep k2 (fun q hq => by omega)
  have hCd := hCc.keep k2 (fun q hq => by omega)
  have hKd := hKc.thru k2 (fun q hq _ => by omega)
  have hS2 := hS1.trans (k2.mono fun q _ hb => hb.2.2.2)
  refine hK _ _ (hS2) ?_
  clear hK K
  generalize (((wc.setCell ⟨w.heap.size + 1 + 1, 0, none⟩ (.int .i64 mf.rows)).setCell ⟨w.heap.size + 1 + 1, 1, none⟩ (.int .i64 mf.cols)).setCell ⟨w.heap.size + 1 + 1, 2, none⟩ (.slice fa fn fc)) = wd at *
  refine wpSegs_nil ?_
  go_wp2
  exact ret_cells3 T_mat T_mat T_mat rfl rfl rfl rfl rfl q0 q1 q2 ⟨_, _, _, rfl, x1.omk (by omega) Hr.out.sd, x2.omk (by omega) Hs.out.sd, x3.oms (by omega), hCd, hKd⟩
 | true =>
  have Hmb := Lib.hid hmb
  obtain ⟨R, C, hr, hc, hR, hC24, hl, hnum⟩ := isMatB_shape hmb
  have Hc := Lib.hid hc
  clear hmb hr hc
  have hs4 := hltR
  go_wp2_with fail
  refine (l1Once_c g 2 _ hC (by omega)).mono ?_
  rintro e w5 ⟨q1, rfl, hC5, hK5⟩
  replace b0 := b0.keep hK5 (by omega)
  replace b1 := b1.keep hK5 (by omega)
  replace b2 := b2.keep hK5 (by omega)
  replace bR := bR.keep hK5 (by omega)
  replace pR := pR.keep2 hK5 (fun q hq => by have := pR.low q hq; have := hRlt q hq; show q ≠ _; omega)
  replace hKp := hKp.thru hK5 (fun q hq (h : q ≠ g) => by show q ≠ _; omega)
  replace hltR := bR.lt
  clear e0 e1 e2
  obtain ⟨⟨e0, e1, e2⟩, -⟩ := bR.three
  clear hC
  have hC := hC5
  cases q1 with
  | true =>
   go_wp2_with fail
   rw [Hc.out]
   refine (sIdentity_c C _ hC24).mono ?_
   rintro e w6 ⟨fa, rfl, oF, fF, hG6⟩
   have hs6 := hG6.size
   have hs5 := hK5.size
   clear hC5 hK5
   replace b0 := b0.grow hG6
   replace b1 := b1.grow hG6
   replace b2 := b2.grow hG6
   replace bR := bR.grow hG6
   replace pR := pR.grow hG6
   replace hKp := hKp.trans hG6.any
   replace hC := hC.grow hG6
   replace hltR := bR.lt
   clear e0 e1 e2
   obtain ⟨⟨e0, e1, e2⟩, -⟩ := bR.three
   obtain ⟨w7, hw7⟩ : ∃ w7, w7 = w6.alloc (.cells #[.int .i64 (C : Int), .int .i64 (C : Int), .slice fa (C * C) (C * C)] 26) := ⟨_, rfl⟩
   have hG7 : Grow w6 w7 := by rw [hw7]; exact (Grow.refl w6).alloc _ _
   have bF : Blk w7 w6.heap.size #[.int .i64 (C : Int), .int .i64 (C : Int), .slice fa (C * C) (C * C)] 26 := by rw [hw7]; exact Blk.new _ _ _
   have oF7 := oF.grow hG7
   go_wp2_with fail
   rw [← hw7]
   clear hw7 hG6 oF
   replace b0 := b0.grow hG7
   replace b1 := b1.grow hG7
   replace b2 := b2.grow hG7
   replace bR := bR.grow hG7
   replace pR := pR.grow hG7
   replace hKp := hKp.trans hG7.any
   replace hC := hC.grow hG7
   replace hltR := bR.lt
   clear e0 e1 e2
   obtain ⟨⟨e0, e1, e2⟩, -⟩ := bR.three
   have nF : w6.heap.size ≠ g := by omega
   have hltF := bF.lt
   have hg3 : g < w7.heap.size := by omega
   have h27 := hltR
   refine wp_region_par (S := (fun w' => Keep (fun q => q ≠ g ∧ q ≠ w6.heap.size) w7 w' ∧ Cur w' g)) (T := fun q => q ≠ g) [1] [0, 2, 4] [3, 5, 6] [([7], some 8)] P_mixed (by kernel_rfl) (fun _ _ _ _ _ h => h) ⟨(Keep.refl _ _).drew, hC.grow (Grow.refl _).drew⟩ ?_
   show wpQuiet _ _ _ _ [_] _
   repeat (first | go_big_quiet_skip | (go_big_quiet_want; first | (go_big_quiet_op; refine ⟨_, (fun _ _ _ => rfl), ?_⟩; go_big_quiet_on) | (go_big_quiet_op; first | go_big_quiet_on | (refine ⟨_, (fun _ _ => rfl), ?_⟩; go_big_quiet_on))))
   refine wpQuiet_nil ?_
   refine ⟨by kernel_rfl, ScPost w7.heap.size (.agg #[.int .i64 (C : Int), .int .i64 (C : Int), .slice fa (C * C) (C * C)]), fun _ _ => none, ScPost.stays hg3, (fun _ _ _ _ _ h => by cases h), (fun _ _ _ => rfl), ?_, ?_, ?_⟩
   ·intro i hi o ho b w8 hGw hSw hdep hfr K hK
    obtain ⟨hS8, hC8⟩ := hSw
    have hGx : Keep (fun q => q ≠ g) w7 w8 := ((Grow.refl w7).drew.any).trans hGw
    simp only [List.mem_cons, List.not_mem_nil, or_false] at hi
    rcases hi with rfl | rfl | rfl
    ·obtain rfl := Option.some.inj (show some _ = some _ from ho)
     exact par_load (x := .tmp 6) T_mat rfl (hfr 6 (by decide)) (bF.keep hGx nF) (hK _ w8 (Keep.refl _ _) ⟨hS8, hC8⟩ rfl (fun _ h => by cases h))
    ·obtain rfl := Option.some.inj (show some _ = some _ from ho)
     refine par_call2 (x := .tmp 27) (y := .const (.int .i64 5)) rfl Tryz.func34 rfl rfl (hfr 27 (by decide)) rfl ?_
     refine (l1Below_c g 5 _ hC8 (by omega)).mono ?_
     rintro e w9 ⟨y, hy, rfl, hC9, hK9⟩
     exact ⟨_, rfl, hK _ w9 hK9 ⟨hS8.trans (hK9.mono fun q _ hq => hq.1), hC9⟩ ⟨y, hy, rfl⟩ (fun _ h => by cases h)⟩
    ·obtain rfl := Option.some.inj (show some _ = some _ from ho)
     have d0 : b.tmps.getD 26 undef = _ := hdep 0 (by decide) ⟨⟨0, .data⟩, by simp, rfl, rfl⟩ 26 rfl
     obtain ⟨z, hz1, hz2, d3⟩ : ∃ z : Int, -5 ≤ z ∧ z ≤ 5 ∧ b.tmps.getD 29 undef = .int .i64 z := hdep 3 (by decide) ⟨⟨3, .data⟩, by simp, rfl, rfl⟩ 29 rfl
     refine par_call2 (x := .tmp 26) (y := .tmp 29) rfl Tryz.func46 rfl rfl d0 d3 ?_
     have o8 := oF7.keep hGx (fun q hq _ => by have := fF q hq; omega)
     refine (sScale_c z (o8.rdI (S := fun _ => True) (fun _ _ => trivial) (num_rng (idL_num C))) (idL_len C) (idL_num C) hC24 hC24 ⟨hz1, hz2⟩).mono ?_
     rintro e w9 ⟨r, b', rfl, M, hM, hbM, hG9⟩
     have hs8 := hGx.size
     obtain ⟨a', n', c', rfl, hx⟩ := OMx.of (B := w7.heap.size) hM (fun q hq => by omega) (by omega)
     exact ⟨_, rfl, hK _ w9 hG9.any ⟨hS8.trans hG9.any, hC8.grow hG9⟩ ⟨_, b', rfl, hx.oms (Nat.le_refl _)⟩ (fun _ h => by cases h)⟩
   ·intro i hi o ho b w8 hGw hSw hdep hfr
    simp only [List.mem_cons, List.not_mem_nil, or_false] at hi
    rcases hi with rfl | rfl | rfl
    ·obtain rfl := Option.some.inj (show some _ = some _ from ho)
     obtain ⟨y, hy, d2⟩ : ∃ y : Nat, (y < 5 ∨ y = 0) ∧ b.tmps.getD 28 undef = .int .i64 (y : Int) := hdep 2 (by decide) ⟨⟨2, .data⟩, by simp, rfl, rfl⟩ 28 rfl
     refine ⟨.int .i64 (IntKind.i64.wrap ((y : Int) - 1)), fun w' _ => free_sub1 (x := .tmp 28) rfl d2 w', (y : Int) - 1, by omega, by omega, by rw [IntWalk.i64_in _ (by omega)]⟩
    ·obtain rfl := Option.some.inj (show some _ = some _ from ho)
     have d4 : ∃ r b', b.tmps.getD 30 undef = .tuple #[r, .bool b'] ∧ OMs w7.heap.size w8 r := hdep 4 (by decide) ⟨⟨4, .data⟩, by simp, rfl, rfl⟩ 30 rfl
     exact ⟨b.tmps.getD 30 undef, fun _ _ => rfl, d4⟩
    ·obtain rfl := Option.some.inj (show some _ = some _ from ho)
     obtain ⟨r, b', e5, hr5⟩ : ∃ r b', b.tmps.getD 25 undef = .tuple #[r, .bool b'] ∧ OMs w7.heap.size w8 r := hdep 5 (by decide) ⟨⟨5, .data⟩, by simp, rfl, rfl⟩ 25 rfl
     exact ⟨r, fun w' _ => free_extract (x := .tmp 25) rfl e5 rfl w', hr5⟩
   ·intro vs w8 hGw hSw hP _
    obtain ⟨hS8, hC8⟩ := hSw
    have hKd : Keep (fun q => q ≠ g) w7 w8 := ((Grow.refl w7).drew.any).trans hGw
    obtain ⟨y, -, i2⟩ : ∃ y : Nat, (y < 5 ∨ y = 0) ∧ vs 2 = .int .i64 (y : Int) := hP 2 (by decide)
    have i0 : vs 0 = _ := hP 0 (by decide)
    obtain ⟨z, -, -, i3⟩ : ∃ z : Int, -5 ≤ z ∧ z ≤ 5 ∧ vs 3 = .int .i64 z := hP 3 (by decide)
    obtain ⟨r4, b4, i4, -⟩ : ∃ r b', vs 4 = .tuple #[r, .bool b'] ∧ OMs w7.heap.size w8 r := hP 4 (by decide)
    obtain ⟨r5, b5, i5, -⟩ : ∃ r b', vs 5 = .tuple #[r, .bool b'] ∧ OMs w7.heap.size w8 r := hP 5 (by decide)
    obtain ⟨mf, pa, pn, pc, i6, pF⟩ : OMs w7.heap.size w8 (vs 6) := hP 6 (by decide)
    apply fill_to
    ·show _ = ([some 26, some 28, some 30, some 29, some 25, some 31] : List (Option Tmp))
     kernel_rfl
    simp only [fillD, List.cons_append, List.nil_append, List.map_cons, List.map_nil, List.zip_cons_cons, List.zip_nil_right, Act.put, List.setIfInBounds_toArray, List.set_cons_succ, List.set_cons_zero]
    refine ⟨?_⟩
    rw [i0, i2, i3, i4, i5, i6]
    show wpQuiet _ _ _ _ [_] _
    try (conv => arg 6; simp only [Act.put, List.setIfInBounds_toArray, List.set_cons_succ, List.set_cons_zero])
    repeat (first | go_big_quiet_skip | (go_big_quiet_want; first | (go_big_quiet_op; refine ⟨_, (fun _ _ _ => rfl), ?_⟩; go_big_quiet_on) | (go_big_quiet_op; first | go_big_quiet_on | (refine ⟨_, (fun _ _ => rfl), ?_⟩; go_big_quiet_on))))
    refine wpQuiet_nil ?_
    refine seg_go rfl (fun K hK => ?_)
    have bF8 := bF.keep hKd nF
    replace b0 := b0.keep hKd (by omega)
    replace b1 := b1.keep hKd (by omega)
    replace b2 := b2.keep hKd (by omega)
    replace bR := bR.keep hKd (by omega)
    replace pR := pR.keep2 hKd (fun q hq => by have := pR.low q hq; have := hRlt q hq; show q ≠ _; omega)
    replace hKp := hKp.thru hKd (fun q hq (h : q ≠ g) => by show q ≠ _; omega)
    replace hltR := bR.lt
    clear e0 e1 e2
    obtain ⟨⟨e0, e1, e2⟩, -⟩ := bR.three
    obtain ⟨⟨u0, u1, u2⟩, f0, f1, f2⟩ := bF8.three
    have hlF8 := bF8.lt
    have hs8 := hKd.size
    go_wp2_with fail
    have hKf : Keep (fun q => q ≠ w6.heap.size) w8 (((w8.setCell ⟨w6.heap.size, 0, none⟩ (.int .i64 mf.rows)).setCell ⟨w6.heap.size, 1, none⟩ (.int .i64 mf.cols)).setCell ⟨w6.heap.size, 2, none⟩ (.slice pa pn pc)) :=
     (((Keep.refl _ w8).setCell (fun _ e => e rfl) _).setCell (fun _ e => e rfl) _).setCell (fun _ e => e rfl) _
    have bF9 := ((bF8.set 0 (.int .i64 mf.rows)).set 1 (.int .i64 mf.cols)).set 2 (.slice pa pn pc)
    have hC9 := hC8.keep hKf (fun q hq => by omega)
    have hs9 := hKf.size
    refine hK _ _ ⟨hS8.trans (hKf.mono fun q _ h => h.2), hC9⟩ ?_
    generalize (((w8.setCell ⟨w6.heap.size, 0, none⟩ (.int .i64 mf.rows)).setCell ⟨w6.heap.size, 1, none⟩ (.int .i64 mf.cols)).setCell ⟨w6.heap.size, 2, none⟩ (.slice pa pn pc)) = w9 at *
    replace b0 := b0.keep hKf (by omega)
    replace b1 := b1.keep hKf (by omega)
    replace b2 := b2.keep hKf (by omega)
    replace bR := bR.keep hKf (by omega)
    replace pR := pR.keep2 hKf (fun q hq => by have := pR.low q hq; have := hRlt q hq; show q ≠ _; omega)
    replace hKp := hKp.thru hKf (fun q hq (h : q ≠ g) => by show q ≠ _; omega)
    replace hltR := bR.lt
    clear e0 e1 e2
    obtain ⟨⟨e0, e1, e2⟩, -⟩ := bR.three
    clear u0 u1 u2 f0 f1 f2 hK K hP hS8 hGw hKd
    refine wpSegs_nil ?_
    obtain ⟨wx, hwx⟩ : ∃ wx, wx = w9.alloc (.cells #[.int .i64 m.rows, .int .i64 m.cols, .slice ra rn rc] 26) := ⟨_, rfl⟩
    have hGx : Grow w9 wx := by rw [hwx]; exact (Grow.refl w9).alloc _ _
    have bS : Blk wx w9.heap.size #[.int .i64 m.rows, .int .i64 m.cols, .slice ra rn rc] 26 := by rw [hwx]; exact Blk.new _ _ _
    clear hC hC8
    have hC := hC9
    go_wp2_with fail
    rw [← hwx]
    clear hwx hC9
    replace b0 := b0.grow hGx
    replace b1 := b1.grow hGx
    replace b2 := b2.grow hGx
    replace bR := bR.grow hGx
    replace pR := pR.grow hGx
    replace hKp := hKp.trans hGx.any
    replace hC := hC.grow hGx
    replace hltR := bR.lt
    clear e0 e1 e2
    obtain ⟨⟨e0, e1, e2⟩, -⟩ := bR.three
    have bF := bF9.grow hGx
    have hFlt : ∀ q, blk pa = some q → q < w9.heap.size := fun q hq => by have := pF.own.lt hq; omega
    replace pF := ((pF.keep2 hKf (fun q hq => by have := pF.low q hq; omega)).grow hGx)
    clear bF8 bF9
    have h9 := hltR
    refine (l1Once_c g 2 _ hC (by omega)).mono ?_
    rintro e wy ⟨q2, rfl, hCy, hKy⟩
    replace b0 := b0.keep hKy (by omega)
    replace b1 := b1.keep hKy (by omega)
    replace b2 := b2.keep hKy (by omega)
    replace bR := bR.keep hKy (by omega)
    replace pR := pR.keep2 hKy (fun q hq => by have := pR.low q hq; have := hRlt q hq; show q ≠ _; omega)
    replace hKp := hKp.thru hKy (fun q hq (h : q ≠ g) => by show q ≠ _; omega)
    replace hltR := bR.lt
    clear e0 e1 e2
    obtain ⟨⟨e0, e1, e2⟩, -⟩ := bR.three
    clear hC
    have hC := hCy
    replace bS := bS.keep hKy (by omega)
    replace bF := bF.keep hKy (by omega)
    replace pF := pF.keep hKy (fun q hq => by omega)
    clear hCy hKy hGx
    cases q2 with
    | false =>
     go_wp2_with fail
     have nR : w2.heap.size ≠ g ∧ w2.heap.size ≠ w.heap.size ∧ w2.heap.size ≠ w.heap.size + 1 ∧ w2.heap.size ≠ w.heap.size + 1 + 1 := ⟨by omega, by omega, by omega, by omega⟩
     have nS : w9.heap.size ≠ g ∧ w9.heap.size ≠ w.heap.size ∧ w9.heap.size ≠ w.heap.size + 1 ∧ w9.heap.size ≠ w.heap.size + 1 + 1 := ⟨by omega, by omega, by omega, by omega⟩
     have nF : w6.heap.size ≠ g ∧ w6.heap.size ≠ w.heap.size ∧ w6.heap.size ≠ w.heap.size + 1 ∧ w6.heap.size ≠ w.heap.size + 1 + 1 := ⟨by omega, by omega, by omega, by omega⟩
     refine wp_region_segs (S := (Keep (fun q => q ≠ g ∧ q ≠ w.heap.size ∧ q ≠ w.heap.size + 1 ∧ q ≠ w.heap.size + 1 + 1) wy)) [([0, 1, 2], some 3), ([], some 4), ([], some 5)] P_mixed (by kernel_rfl) (fun _ _ _ _ _ h => h) (Keep.refl _ _).drew ?_
     show wpQuiet _ _ _ _ [_, _, _] _
     repeat (first | go_big_quiet_skip | (go_big_quiet_want; first | (apply quiet_load3 T_mat; rfl; rfl; exact (fun w' hG => bR.keep hG nR); go_big_quiet_on; simp only [Act.put, List.setIfInBounds_toArray, List.set_cons_succ, List.set_cons_zero]) | (apply quiet_load3 T_mat; rfl; rfl; exact (fun w' hG => bS.keep hG nS); go_big_quiet_on; simp only [Act.put, List.setIfInBounds_toArray, List.set_cons_succ, List.set_cons_zero]) | (apply quiet_load3 T_mat; rfl; rfl; exact (fun w' hG => bF.keep hG nF); go_big_quiet_on; simp only [Act.put, List.setIfInBounds_toArray, List.set_cons_succ, List.set_cons_zero]) | (go_big_quiet_op; first | go_big_quiet_on | (refine ⟨_, (fun _ _ => rfl), ?_⟩; go_big_quiet_on))))
     refine wpQuiet_nil ?_
     obtain ⟨wa, hwa⟩ : ∃ wa, wa = wy.drew := ⟨_, rfl⟩
     have hGa : Grow wy wa := by rw [hwa]; exact (Grow.refl _).drew
     rw [← hwa]
     clear hwa
     have r0 := b0.grow hGa
     have r1 := b1.grow hGa
     have r2 := b2.grow hGa
     have p1 := pR.grow hGa
     have p2 := pR.grow hGa
     have p3 := pF.grow hGa
     have hCa := hC.grow hGa
     have hKw := hKp.trans hGa.any
     have hS : Keep (fun q => q ≠ g ∧ q ≠ w.heap.size ∧ q ≠ w.heap.size + 1 ∧ q ≠ w.heap.size + 1 + 1) wy wa := hGa.any
     clear hC b0 b1 b2 pR bS bF pF bR e0 e1 e2
     refine seg_go rfl (fun K hK => ?_)
     obtain ⟨⟨u0, u1, u2⟩, f0, f1, f2⟩ := r0.three
     have hl0 := r0.lt
     go_wp2_with fail
     have k0 : Keep (fun q => q ≠ w.heap.size) wa (((wa.setCell ⟨w.heap.size, 0, none⟩ (.int .i64 m.rows)).setCell ⟨w.heap.size, 1, none⟩ (.int .i64 m.cols)).setCell ⟨w.heap.size, 2, none⟩ (.slice ra rn rc)) :=
      (((Keep.refl _ wa).setCell (fun _ e => e rfl) _).setCell (fun _ e => e rfl) _).setCell (fun _ e => e rfl) _
     have s0 := ((r0.set 0 (.int .i64 m.rows)).set 1 (.int .i64 m.cols)).set 2 (.slice ra rn rc)
     have s1 := r1.keep k0 (by omega)
     have s2 := r2.keep k0 (by omega)
     have z1 := p1.keep k0 (fun q hq => by omega)
     have z2 := p2.keep k0 (fun q hq => by omega)
     have z3 := p3.keep k0 (fun q hq => by omega)
     have hCb := hCa.keep k0 (fun q hq => by omega)
     have hKb := hKw.thru k0 (fun q hq _ => by omega)
     have hS0 := hS.trans (k0.mono fun q _ hb => hb.2.1)
     refine hK _ _ (hS0) ?_
     clear hK K
     generalize (((wa.setCell ⟨w.heap.size, 0, none⟩ (.int .i64 m.rows)).setCell ⟨w.heap.size, 1, none⟩ (.int .i64 m.cols)).setCell ⟨w.heap.size, 2, none⟩ (.slice ra rn rc)) = wb at *
     clear u0 u1 u2 f0 f1 f2 r0 r1 r2 p1 p2 p3 hl0
     show wpQuiet _ _ _ _ [] _
     try (conv => arg 6; simp only [Act.put, List.setIfInBounds_toArray, List.set_cons_succ, List.set_cons_zero])
     refine wpQuiet_nil ?_
     refine seg_go rfl (fun K hK => ?_)
     obtain ⟨⟨u0, u1, u2⟩, f0, f1, f2⟩ := s1.three
     have hl0 := s1.lt
     go_wp2_with fail
     have k1 : Keep (fun q => q ≠ w.heap.size + 1) wb (((wb.setCell ⟨w.heap.size + 1, 0, none⟩ (.int .i64 m.rows)).setCell ⟨w.heap.size + 1, 1, none⟩ (.int .i64 m.cols)).setCell ⟨w.heap.size + 1, 2, none⟩ (.slice ra rn rc)) :=
      (((Keep.refl _ wb).setCell (fun _ e => e rfl) _).setCell (fun _ e => e rfl) _).setCell (fun _ e => e rfl) _
     have t1 := ((s1.set 0 (.int .i64 m.rows)).set 1 (.int .i64 m.cols)).set 2 (.slice ra rn rc)
     have t0 := s0.keep k1 (by omega)
     have t2 := s2.keep k1 (by omega)
     have y1 := z1.keep k1 (fun q hq => by omega)
     have y2 := z2.keep k1 (fun q hq => by omega)
     have y3 := z3.keep k1 (fun q hq => by omega)
     have hCc := hCb.keep k1 (fun q hq => by omega)
     have hKc := hKb.thru k1 (fun q hq _ => by omega)
     have hS1 := hS0.trans (k1.mono fun q _ hb => hb.2.2.1)
     refine hK _ _ (hS1) ?_
     clear hK K
     generalize (((wb.setCell ⟨w.heap.size + 1, 0, none⟩ (.int .i64 m.rows)).setCell ⟨w.heap.size + 1, 1, none⟩ (.int .i64 m.cols)).setCell ⟨w.heap.size + 1, 2, none⟩ (.slice ra rn rc)) = wc at *
     clear u0 u1 u2 f0 f1 f2 s0 s1 s2 z1 z2 z3 hl0
     show wpQuiet _ _ _ _ [] _
     try (conv => arg 6; simp only [Act.put, List.setIfInBounds_toArray, List.set_cons_succ, List.set_cons_zero])
     refine wpQuiet_nil ?_
     refine seg_go rfl (fun K hK => ?_)
     obtain ⟨⟨u0, u1, u2⟩, f0, f1, f2⟩ := t2.three
     have hl0 := t2.lt
     go_wp2_with fail
     have k2 : Keep (fun q => q ≠ w.heap.size + 1 + 1) wc (((wc.setCell ⟨w.heap.size + 1 + 1, 0, none⟩ (.int .i64 mf.rows)).setCell ⟨w.heap.size + 1 + 1, 1, none⟩ (.int .i64 mf.cols)).setCell ⟨w.heap.size + 1 + 1, 2, none⟩ (.slice pa pn pc)) :=
      (((Keep.refl _ wc).setCell (fun _ e => e rfl) _).setCell (fun _ e => e rfl) _).setCell (fun _ e => e rfl) _
     have q2 := ((t2.set 0 (.int .i64 mf.rows)).set 1 (.int .i64 mf.cols)).set 2 (.slice pa pn pc)
     have q0 := t0.keep k2 (by omega)
     have q1 := t1.keep k2 (by omega)
     have x1 := y1.keep k2 (fun q hq => by omega)
     have x2 := y2.keep k2 (fun q hq => by omega)
     have x3 := y3.keep k2 (fun q hq => by omega)
     have hCd := hCc.keep k2 (fun q hq => by omega)
     have hKd := hKc.thru k2 (fun q hq _ => by omega)
     have hS2 := hS1.trans (k2.mono fun q _ hb => hb.2.2.2)
     refine hK _ _ (hS2) ?_
     clear hK K
     generalize (((wc.setCell ⟨w.heap.size + 1 + 1, 0, none⟩ (.int .i64 mf.rows)).setCell ⟨w.heap.size + 1 + 1, 1, none⟩ (.int .i64 mf.cols)).setCell ⟨w.heap.size + 1 + 1, 2, none⟩ (.slice pa pn pc)) = wd at *
     refine wpSegs_nil ?_
     go_wp2
     exact ret_cells3 T_mat T_mat T_mat rfl rfl rfl rfl rfl q0 q1 q2 ⟨_, _, _, rfl, x1.omk (by omega) Hr.out.sd, x2.omk (by omega) Hr.out.sd, x3.oms (by omega), hCd, hKd⟩
    | true =>
     by_cases h3 : m.rows < 3
     ·go_wp2_with fail
      have nR2 : w2.heap.size ≠ g ∧ w2.heap.size ≠ w9.heap.size := ⟨by omega, by omega⟩
      refine wp_region_segs (S := (Keep (fun q => q ≠ g ∧ q ≠ w9.heap.size) wy)) [([0, 1, 2, 3], some 4), ([], some 5), ([6, 7, 8], some 9)] P_mixed (by kernel_rfl) (fun _ _ _ _ _ h => h) (Keep.refl _ _).drew ?_
      show wpQuiet _ _ _ _ [_, _, _, _] _
      repeat (first | go_big_quiet_skip | (go_big_quiet_want; first | (apply quiet_load3 T_mat; rfl; rfl; exact (fun w' hG => bR.keep hG nR2); go_big_quiet_on; simp only [Act.put, List.setIfInBounds_toArray, List.set_cons_succ, List.set_cons_zero]) | (apply quiet_load CT_int; rfl; rfl; exact (fun w' hG => hG.cell nR2 e1); go_big_quiet_on; simp only [Act.put, List.setIfInBounds_toArray, List.set_cons_succ, List.set_cons_zero]) | (go_big_quiet_op; first | go_big_quiet_on | (refine ⟨_, (fun _ _ => rfl), ?_⟩; go_big_quiet_on))))
      refine wpQuiet_nil ?_
      refine seg_go rfl (fun K hK => ?_)
      go_wp2_with fail
      have hszy : w.heap.size + 3 ≤ wy.drew.heap.size := by show _ ≤ wy.heap.size; omega
      refine (l3DrawI_k (w.heap.size + 3) g 1 C 4 _ Hc.out _ (hC.grow (Grow.refl _).drew) (by omega) (by omega) (by omega) hszy).mono ?_
      rintro e wz ⟨da, dn, dc, md, rfl, pD, -, -, -, hbx, hCz, hKz⟩
      have Ht := Lib.hid (Hr.out.stack (d := md) fun x hx => by have := hbx x hx; omega)
      clear hbx
      have hKe : Keep (fun q => q ≠ g) wy wz := ((Grow.refl wy).drew.any).trans hKz
      replace b0 := b0.keep hKe (by omega)
      replace b1 := b1.keep hKe (by omega)
      replace b2 := b2.keep hKe (by omega)
      replace bR := bR.keep hKe (by omega)
      replace pR := pR.keep2 hKe (fun q hq => by have := pR.low q hq; have := hRlt q hq; show q ≠ _; omega)
      replace hKp := hKp.thru hKe (fun q hq (h : q ≠ g) => by show q ≠ _; omega)
      replace hltR := bR.lt
      clear e0 e1 e2
      obtain ⟨⟨e0, e1, e2⟩, -⟩ := bR.three
      clear hC
      have hC := hCz
      replace bS := bS.keep hKe (by omega)
      replace bF := bF.keep hKe (by omega)
      replace pF := pF.keep hKe (fun q hq => by omega)
      clear hCz hKz
      go_wp2_with fail
      refine hK _ _ ((hKe.mono fun q _ h => h.1)) ?_
      clear hK K
      show wpQuiet _ _ _ _ [] _
      try (conv => arg 6; simp only [Act.put, List.setIfInBounds_toArray, List.set_cons_succ, List.set_cons_zero])
      refine wpQuiet_nil ?_
      refine seg_go rfl (fun K hK => ?_)
      go_wp2_with fail
      refine (sStackRows_c pR.vm pD.vm (by have := pR.bd; omega) (by have := pD.bd; omega)).mono ?_
      rintro e wu ⟨r, rfl, hO, hGu⟩
      have hszz := bS.lt
      obtain ⟨ta, tn, tc, rfl, pT⟩ := OMx.of (B := w9.heap.size + 1) hO (fun q hq => by have := hq.1; omega) (Nat.le_trans (isMatB_bd (stackB_mat _ _)) (by decide))
      generalize stackB m md = mt at *
      generalize stackOk m md = bt at *
      replace b0 := b0.grow hGu
      replace b1 := b1.grow hGu
      replace b2 := b2.grow hGu
      replace bR := bR.grow hGu
      replace pR := pR.grow hGu
      replace hKp := hKp.trans hGu.any
      replace hC := hC.grow hGu
      replace hltR := bR.lt
      clear e0 e1 e2
      obtain ⟨⟨e0, e1, e2⟩, -⟩ := bR.three
      replace bS := bS.grow hGu
      replace bF := bF.grow hGu
      replace pF := pF.grow hGu
      go_wp2_with fail
      have hSu := (hKe.mono fun q _ (h : q ≠ g ∧ q ≠ w9.heap.size) => h.1).trans hGu.any
      refine hK _ _ (hSu) ?_
      clear hK K
      show wpQuiet _ _ _ _ [_, _, _] _
      try (conv => arg 6; simp only [Act.put, List.setIfInBounds_toArray, List.set_cons_succ, List.set_cons_zero])
      repeat (first | go_big_quiet_skip | (go_big_quiet_want; first | (apply quiet_load3 T_mat; rfl; rfl; exact (fun w' hG => bR.keep hG nR2); go_big_quiet_on; simp only [Act.put, List.setIfInBounds_toArray, List.set_cons_succ, List.set_cons_zero]) | (apply quiet_load CT_int; rfl; rfl; exact (fun w' hG => hG.cell nR2 e1); go_big_quiet_on; simp only [Act.put, List.setIfInBounds_toArray, List.set_cons_succ, List.set_cons_zero]) | (go_big_quiet_op; first | go_big_quiet_on | (refine ⟨_, (fun _ _ => rfl), ?_⟩; go_big_quiet_on))))
      refine wpQuiet_nil ?_
      refine seg_go rfl (fun K hK => ?_)
      obtain ⟨⟨u0, u1, u2⟩, f0, f1, f2⟩ := bS.three
      have hlS := bS.lt
      go_wp2_with fail
      have hKs : Keep (fun q => q ≠ w9.heap.size) wu (((wu.setCell ⟨w9.heap.size, 0, none⟩ (.int .i64 mt.rows)).setCell ⟨w9.heap.size, 1, none⟩ (.int .i64 mt.cols)).setCell ⟨w9.heap.size, 2, none⟩ (.slice ta tn tc)) :=
       (((Keep.refl _ wu).setCell (fun _ e => e rfl) _).setCell (fun _ e => e rfl) _).setCell (fun _ e => e rfl) _
      have bS9 := ((bS.set 0 (.int .i64 mt.rows)).set 1 (.int .i64 mt.cols)).set 2 (.slice ta tn tc)
      have hC9 := hC.keep hKs (fun q hq => by omega)
      have hsu := hKs.size
      refine hK _ _ ((hSu.trans (hKs.mono fun q _ h => h.2))) ?_
      clear hK K
      generalize (((wu.setCell ⟨w9.heap.size, 0, none⟩ (.int .i64 mt.rows)).setCell ⟨w9.heap.size, 1, none⟩ (.int .i64 mt.cols)).setCell ⟨w9.heap.size, 2, none⟩ (.slice ta tn tc)) = wt at *
      replace b0 := b0.keep hKs (by omega)
      replace b1 := b1.keep hKs (by omega)
      replace b2 := b2.keep hKs (by omega)
      replace bR := bR.keep hKs (by omega)
      replace pR := pR.keep2 hKs (fun q hq => by have := pR.low q hq; have := hRlt q hq; show q ≠ _; omega)
      replace hKp := hKp.thru hKs (fun q hq (h : q ≠ g) => by show q ≠ _; omega)
      replace hltR := bR.lt
      clear e0 e1 e2
      obtain ⟨⟨e0, e1, e2⟩, -⟩ := bR.three
      clear hC bS
      have bS := bS9
      have hC := hC9
      replace bF := bF.keep hKs (by omega)
      replace pF := pF.keep2 hKs (fun q hq => by have := hFlt q hq; show q ≠ _; omega)
      replace pT := pT.keep hKs (fun q hq => by omega)
      clear u0 u1 u2 f0 f1 f2 hSu bS9 hC9
      refine wpSegs_nil ?_
      go_wp2_with fail
      have nR : w2.heap.size ≠ g ∧ w2.heap.size ≠ w.heap.size ∧ w2.heap.size ≠ w.heap.size + 1 ∧ w2.heap.size ≠ w.heap.size + 1 + 1 := ⟨by omega, by omega, by omega, by omega⟩
      have nS : w9.heap.size ≠ g ∧ w9.heap.size ≠ w.heap.size ∧ w9.heap.size ≠ w.heap.size + 1 ∧ w9.heap.size ≠ w.heap.size + 1 + 1 := ⟨by omega, by omega, by omega, by omega⟩
      have nF : w6.heap.size ≠ g ∧ w6.heap.size ≠ w.heap.size ∧ w6.heap.size ≠ w.heap.size + 1 ∧ w6.heap.size ≠ w.heap.size + 1 + 1 := ⟨by omega, by omega, by omega, by omega⟩
      refine wp_region_segs (S := (Keep (fun q => q ≠ g ∧ q ≠ w.heap.size ∧ q ≠ w.heap.size + 1 ∧ q ≠ w.heap.size + 1 + 1) wt)) [([0, 1, 2], some 3), ([], some 4), ([], some 5)] P_mixed (by kernel_rfl) (fun _ _ _ _ _ h => h) (Keep.refl _ _).drew ?_
      show wpQuiet _ _ _ _ [_, _, _] _
      repeat (first | go_big_quiet_skip | (go_big_quiet_want; first | (apply quiet_load3 T_mat; rfl; rfl; exact (fun w' hG => bR.keep hG nR); go_big_quiet_on; simp only [Act.put, List.setIfInBounds_toArray, List.set_cons_succ, List.set_cons_zero]) | (apply quiet_load3 T_mat; rfl; rfl; exact (fun w' hG => bS.keep hG nS); go_big_quiet_on; simp only [Act.put, List.setIfInBounds_toArray, List.set_cons_succ, List.set_cons_zero]) | (apply quiet_load3 T_mat; rfl; rfl; exact (fun w' hG => bF.keep hG nF); go_big_quiet_on; simp only [Act.put, List.setIfInBounds_toArray, List.set_cons_succ, List.set_cons_zero]) | (go_big_quiet_op; first | go_big_quiet_on | (refine ⟨_, (fun _ _ => rfl), ?_⟩; go_big_quiet_on))))
      refine wpQuiet_nil ?_
      obtain ⟨wa, hwa⟩ : ∃ wa, wa = wt.drew := ⟨_, rfl⟩
      have hGa : Grow wt wa := by rw [hwa]; exact (Grow.refl _).drew
      rw [← hwa]
      clear hwa
      have r0 := b0.grow hGa
      have r1 := b1.grow hGa
      have r2 := b2.grow hGa
      have p1 := pR.grow hGa
      have p2 := pT.grow hGa
      have p3 := pF.grow hGa
      have hCa := hC.grow hGa
      have hKw := hKp.trans hGa.any
      have hS : Keep (fun q => q ≠ g ∧ q ≠ w.heap.size ∧ q ≠ w.heap.size + 1 ∧ q ≠ w.heap.size + 1 + 1) wt wa := hGa.any
      clear hC b0 b1 b2 pR bS bF pF bR e0 e1 e2
      refine seg_go rfl (fun K hK => ?_)
      obtain ⟨⟨u0, u1, u2⟩, f0, f1, f2⟩ := r0.three
      have hl0 := r0.lt
      go_wp2_with fail
      have k0 : Keep (fun q => q ≠ w.heap.size) wa (((wa.setCell ⟨w.heap.size, 0, none⟩ (.int .i64 m.rows)).setCell ⟨w.heap.size, 1, none⟩ (.int .i64 m.cols)).setCell ⟨w.heap.size, 2, none⟩ (.slice ra rn rc)) :=
       (((Keep.refl _ wa).setCell (fun _ e => e rfl) _).setCell (fun _ e => e rfl) _).setCell (fun _ e => e rfl) _
      have s0 := ((r0.set 0 (.int .i64 m.rows)).set 1 (.int .i64 m.cols)).set 2 (.slice ra rn rc)
      have s1 := r1.keep k0 (by omega)
      have s2 := r2.keep k0 (by omega)
      have z1 := p1.keep k0 (fun q hq => by omega)
      have z2 := p2.keep k0 (fun q hq => by omega)
      have z3 := p3.keep k0 (fun q hq => by omega)
      have hCb := hCa.keep k0 (fun q hq => by omega)
      have hKb := hKw.thru k0 (fun q hq _ => by omega)
      have hS0 := hS.trans (k0.mono fun q _ hb => hb.2.1)
      refine hK _ _ (hS0) ?_
      clear hK K
      generalize (((wa.setCell ⟨w.heap.size, 0, none⟩ (.int .i64 m.rows)).setCell ⟨w.heap.size, 1, none⟩ (.int .i64 m.cols)).setCell ⟨w.heap.size, 2, none⟩ (.slice ra rn rc)) = wb at *
      clear u0 u1 u2 f0 f1 f2 r0 r1 r2 p1 p2 p3 hl0
      show wpQuiet _ _ _ _ [] _
      try (conv => arg 6; simp only [Act.put, List.setIfInBounds_toArray, List.set_cons_succ, List.set_cons_zero])
      refine wpQuiet_nil ?_
      refine seg_go rfl (fun K hK => ?_)
      obtain ⟨⟨u0, u1, u2⟩, f0, f1, f2⟩ := s1.three
      have hl0 := s1.lt
      go_wp2_with fail
      have k1 : Keep (fun q => q ≠ w.heap.size + 1) wb (((wb.setCell ⟨w.heap.size + 1, 0, none⟩ (.int .i64 mt.rows)).setCell ⟨w.heap.size + 1, 1, none⟩ (.int .i64 mt.cols)).setCell ⟨w.heap.size + 1, 2, none⟩ (.slice ta tn tc)) :=
       (((Keep.refl _ wb).setCell (fun _ e => e rfl) _).setCell (fun _ e => e rfl) _).setCell (fun _ e => e rfl) _
      have t1 := ((s1.set 0 (.int .i64 mt.rows)).set 1 (.int .i64 mt.cols)).set 2 (.slice ta tn tc)
      have t0 := s0.keep k1 (by omega)
      have t2 := s2.keep k1 (by omega)
      have y1 := z1.keep k1 (fun q hq => by omega)
      have y2 := z2.keep k1 (fun q hq => by omega)
      have y3 := z3.keep k1 (fun q hq => by omega)
      have hCc := hCb.keep k1 (fun q hq => by omega)
      have hKc := hKb.thru k1 (fun q hq _ => by omega)
      have hS1 := hS0.trans (k1.mono fun q _ hb => hb.2.2.1)
      refine hK _ _ (hS1) ?_
      clear hK K
      generalize (((wb.setCell ⟨w.heap.size + 1, 0, none⟩ (.int .i64 mt.rows)).setCell ⟨w.heap.size + 1, 1, none⟩ (.int .i64 mt.cols)).setCell ⟨w.heap.size + 1, 2, none⟩ (.slice ta tn tc)) = wc at *
      clear u0 u1 u2 f0 f1 f2 s0 s1 s2 z1 z2 z3 hl0
      show wpQuiet _ _ _ _ [] _
      try (conv => arg 6; simp only [Act.put, List.setIfInBounds_toArray, List.set_cons_succ, List.set_cons_zero])
      refine wpQuiet_nil ?_
      refine seg_go rfl (fun K hK => ?_)
      obtain ⟨⟨u0, u1, u2⟩, f0, f1, f2⟩ := t2.three
      have hl0 := t2.lt
      go_wp2_with fail
      have k2 : Keep (fun q => q ≠ w.heap.size + 1 + 1) wc (((wc.setCell ⟨w.heap.size + 1 + 1, 0, none⟩ (.int .i64 mf.rows)).setCell ⟨w.heap.size + 1 + 1, 1, none⟩ (.int .i64 mf.cols)).setCell ⟨w.heap.size + 1 + 1, 2, none⟩ (.slice pa pn pc)) :=
       (((Keep.refl _ wc).setCell (fun _ e => e rfl) _).setCell (fun _ e => e rfl) _).setCell (fun _ e => e rfl) _
      have q2 := ((t2.set 0 (.int .i64 mf.rows)).set 1 (.int .i64 mf.cols)).set 2 (.slice pa pn pc)
      have q0 := t0.keep k2 (by omega)
      have q1 := t1.keep k2 (by omega)
      have x1 := y1.keep k2 (fun q hq => by omega)
      have x2 := y2.keep k2 (fun q hq => by omega)
      have x3 := y3.keep k2 (fun q hq => by omega)
      have hCd := hCc.keep k2 (fun q hq => by omega)
      have hKd := hKc.thru k2 (fun q hq _ => by omega)
      have hS2 := hS1.trans (k2.mono fun q _ hb => hb.2.2.2)
      refine hK _ _ (hS2) ?_
      clear hK K
      generalize (((wc.setCell ⟨w.heap.size + 1 + 1, 0, none⟩ (.int .i64 mf.rows)).setCell ⟨w.heap.size + 1 + 1, 1, none⟩ (.int .i64 mf.cols)).setCell ⟨w.heap.size + 1 + 1, 2, none⟩ (.slice pa pn pc)) = wd at *
      refine wpSegs_nil ?_
      go_wp2
      exact ret_cells3 T_mat T_mat T_mat rfl rfl rfl rfl rfl q0 q1 q2 ⟨_, _, _, rfl, x1.omk (by omega) Hr.out.sd, x2.omk (by omega) Ht.out, x3.oms (by omega), hCd, hKd⟩
     ·go_wp2_with fail
      have nR : w2.heap.size ≠ g ∧ w2.heap.size ≠ w.heap.size ∧ w2.heap.size ≠ w.heap.size + 1 ∧ w2.heap.size ≠ w.heap.size + 1 + 1 := ⟨by omega, by omega, by omega, by omega⟩
      have nS : w9.heap.size ≠ g ∧ w9.heap.size ≠ w.heap.size ∧ w9.heap.size ≠ w.heap.size + 1 ∧ w9.heap.size ≠ w.heap.size + 1 + 1 := ⟨by omega, by omega, by omega, by omega⟩
      have nF : w6.heap.size ≠ g ∧ w6.heap.size ≠ w.heap.size ∧ w6.heap.size ≠ w.heap.size + 1 ∧ w6.heap.size ≠ w.heap.size + 1 + 1 := ⟨by omega, by omega, by omega, by omega⟩
      refine wp_region_segs (S := (Keep (fun q => q ≠ g ∧ q ≠ w.heap.size ∧ q ≠ w.heap.size + 1 ∧ q ≠ w.heap.size + 1 + 1) wy)) [([0, 1, 2], some 3), ([], some 4), ([], some 5)] P_mixed (by kernel_rfl) (fun _ _ _ _ _ h => h) (Keep.refl _ _).drew ?_
      show wpQuiet _ _ _ _ [_, _, _] _
      repeat (first | go_big_quiet_skip | (go_big_quiet_want; first | (apply quiet_load3 T_mat; rfl; rfl; exact (fun w' hG => bR.keep hG nR); go_big_quiet_on; simp only [Act.put, List.setIfInBounds_toArray, List.set_cons_succ, List.set_cons_zero]) | (apply quiet_load3 T_mat; rfl; rfl; exact (fun w' hG => bS.keep hG nS); go_big_quiet_on; simp only [Act.put, List.setIfInBounds_toArray, List.set_cons_succ, List.set_cons_zero]) | (apply quiet_load3 T_mat; rfl; rfl; exact (fun w' hG => bF.keep hG nF); go_big_quiet_on; simp only [Act.put, List.setIfInBounds_toArray, List.set_cons_succ, List.set_cons_zero]) | (go_big_quiet_op; first | go_big_quiet_on | (refine ⟨_, (fun _ _ => rfl), ?_⟩; go_big_quiet_on))))
      refine wpQuiet_nil ?_
      obtain ⟨wa, hwa⟩ : ∃ wa, wa = wy.drew := ⟨_, rfl⟩
      have hGa : Grow wy wa := by rw [hwa]; exact (Grow.refl _).drew
      rw [← hwa]
      clear hwa
      have r0 := b0.grow hGa
      have r1 := b1.grow hGa
      have r2 := b2.grow hGa
      have p1 := pR.grow hGa
      have p2 := pR.grow hGa
      have p3 := pF.grow hGa
      have hCa := hC.grow hGa
      have hKw := hKp.trans hGa.any
      have hS : Keep (fun q => q ≠ g ∧ q ≠ w.heap.size ∧ q ≠ w.heap.size + 1 ∧ q ≠ w.heap.size + 1 + 1) wy wa := hGa.any
      clear hC b0 b1 b2 pR bS bF pF bR e0 e1 e2
      refine seg_go rfl (fun K hK => ?_)
      obtain ⟨⟨u0, u1, u2⟩, f0, f1, f2⟩ := r0.three
      have hl0 := r0.lt
      go_wp2_with fail
      have k0 : Keep (fun q => q ≠ w.heap.size) wa (((wa.setCell ⟨w.heap.size, 0, none⟩ (.int .i64 m.rows)).setCell ⟨w.heap.size, 1, none⟩ (.int .i64 m.cols)).setCell ⟨w.heap.size, 2, none⟩ (.slice ra rn rc)) :=
       (((Keep.refl _ wa).setCell (fun _ e => e rfl) _).setCell (fun _ e => e rfl) _).setCell (fun _ e => e rfl) _
      have s0 := ((r0.set 0 (.int .i64 m.rows)).set 1 (.int .i64 m.cols)).set 2 (.slice ra rn rc)
      have s1 := r1.keep k0 (by omega)
      have s2 := r2.keep k0 (by omega)
      have z1 := p1.keep k0 (fun q hq => by omega)
      have z2 := p2.keep k0 (fun q hq => by omega)
      have z3 := p3.keep k0 (fun q hq => by omega)
      have hCb := hCa.keep k0 (fun q hq => by omega)
      have hKb := hKw.thru k0 (fun q hq _ => by omega)
      have hS0 := hS.trans (k0.mono fun q _ hb => hb.2.1)
      refine hK _ _ (hS0) ?_
      clear hK K
      generalize (((wa.setCell ⟨w.heap.size, 0, none⟩ (.int .i64 m.rows)).setCell ⟨w.heap.size, 1, none⟩ (.int .i64 m.cols)).setCell ⟨w.heap.size, 2, none⟩ (.slice ra rn rc)) = wb at *
      clear u0 u1 u2 f0 f1 f2 r0 r1 r2 p1 p2 p3 hl0
      show wpQuiet _ _ _ _ [] _
      try (conv => arg 6; simp only [Act.put, List.setIfInBounds_toArray, List.set_cons_succ, List.set_cons_zero])
      refine wpQuiet_nil ?_
      refine seg_go rfl (fun K hK => ?_)
      obtain ⟨⟨u0, u1, u2⟩, f0, f1, f2⟩ := s1.three
      have hl0 := s1.lt
      go_wp2_with fail
      have k1 : Keep (fun q => q ≠ w.heap.size + 1) wb (((wb.setCell ⟨w.heap.size + 1, 0, none⟩ (.int .i64 m.rows)).setCell ⟨w.heap.size + 1, 1, none⟩ (.int .i64 m.cols)).setCell ⟨w.heap.size + 1, 2, none⟩ (.slice ra rn rc)) :=
       (((Keep.refl _ wb).setCell (fun _ e => e rfl) _).setCell (fun _ e => e rfl) _).setCell (fun _ e => e rfl) _
      have t1 := ((s1.set 0 (.int .i64 m.rows)).set 1 (.int .i64 m.cols)).set 2 (.slice ra rn rc)
      have t0 := s0.keep k1 (by omega)
      have t2 := s2.keep k1 (by omega)
      have y1 := z1.keep k1 (fun q hq => by omega)
      have y2 := z2.keep k1 (fun q hq => by omega)
      have y3 := z3.keep k1 (fun q hq => by omega)
      have hCc := hCb.keep k1 (fun q hq => by omega)
      have hKc := hKb.thru k1 (fun q hq _ => by omega)
      have hS1 := hS0.trans (k1.mono fun q _ hb => hb.2.2.1)
      refine hK _ _ (hS1) ?_
      clear hK K
      generalize (((wb.setCell ⟨w.heap.size + 1, 0, none⟩ (.int .i64 m.rows)).setCell ⟨w.heap.size + 1, 1, none⟩ (.int .i64 m.cols)).setCell ⟨w.heap.size + 1, 2, none⟩ (.slice ra rn rc)) = wc at *
      clear u0 u1 u2 f0 f1 f2 s0 s1 s2 z1 z2 z3 hl0
      show wpQuiet _ _ _ _ [] _
      try (conv => arg 6; simp only [Act.put, List.setIfInBounds_toArray, List.set_cons_succ, List.set_cons_zero])
      refine wpQuiet_nil ?_
      refine seg_go rfl (fun K hK => ?_)
      obtain ⟨⟨u0, u1, u2⟩, f0, f1, f2⟩ := t2.three
      have hl0 := t2.lt
      go_wp2_with fail
      have k2 : Keep (fun q => q ≠ w.heap.size + 1 + 1) wc (((wc.setCell ⟨w.heap.size + 1 + 1, 0, none⟩ (.int .i64 mf.rows)).setCell ⟨w.heap.size + 1 + 1, 1, none⟩ (.int .i64 mf.cols)).setCell ⟨w.heap.size + 1 + 1, 2, none⟩ (.slice pa pn pc)) :=
       (((Keep.refl _ wc).setCell (fun _ e => e rfl) _).setCell (fun _ e => e rfl) _).setCell (fun _ e => e rfl) _
      have q2 := ((t2.set 0 (.int .i64 mf.rows)).set 1 (.int .i64 mf.cols)).set 2 (.slice pa pn pc)
      have q0 := t0.keep k2 (by omega)
      have q1 := t1.keep k2 (by omega)
      have x1 := y1.keep k2 (fun q hq => by omega)
      have x2 := y2.keep k2 (fun q hq => by omega)
      have x3 := y3.keep k2 (fun q hq => by omega)
      have hCd := hCc.keep k2 (fun q hq => by omega)
      have hKd := hKc.thru k2 (fun q hq _ => by omega)
      have hS2 := hS1.trans (k2.mono fun q _ hb => hb.2.2.2)
      refine hK _ _ (hS2) ?_
      clear hK K
      generalize (((wc.setCell ⟨w.heap.size + 1 + 1, 0, none⟩ (.int .i64 mf.rows)).setCell ⟨w.heap.size + 1 + 1, 1, none⟩ (.int .i64 mf.cols)).setCell ⟨w.heap.size + 1 + 1, 2, none⟩ (.slice pa pn pc)) = wd at *
      refine wpSegs_nil ?_
      go_wp2
      exact ret_cells3 T_mat T_mat T_mat rfl rfl rfl rfl rfl q0 q1 q2 ⟨_, _, _, rfl, x1.omk (by omega) Hr.out.sd, x2.omk (by omega) Hr.out.sd, x3.oms (by omega), hCd, hKd⟩
  | false =>
   go_wp2_with fail
   refine (sIsMatrix_c pR.vm (by have := pR.bd; omega)).mono ?_
   rintro e w6 ⟨rfl, hG6⟩
   rw [Hmb.out]
   have hs5 := hK5.size
   clear hC5 hK5
   replace b0 := b0.grow hG6
   replace b1 := b1.grow hG6
   replace b2 := b2.grow hG6
   replace bR := bR.grow hG6
   replace pR := pR.grow hG6
   replace hKp := hKp.trans hG6.any
   replace hC := hC.grow hG6
   replace hltR := bR.lt
   clear e0 e1 e2
   obtain ⟨⟨e0, e1, e2⟩, -⟩ := bR.three
   have hs6 := hG6.size
   clear hG6
   go_wp2_with fail
   refine (l1Once_c g 2 _ hC (by omega)).mono ?_
   rintro e wx ⟨q2, rfl, hC7, hK7⟩
   replace b0 := b0.keep hK7 (by omega)
   replace b1 := b1.keep hK7 (by omega)
   replace b2 := b2.keep hK7 (by omega)
   replace bR := bR.keep hK7 (by omega)
   replace pR := pR.keep2 hK7 (fun q hq => by have := pR.low q hq; have := hRlt q hq; show q ≠ _; omega)
   replace hKp := hKp.thru hK7 (fun q hq (h : q ≠ g) => by show q ≠ _; omega)
   replace hltR := bR.lt
   clear e0 e1 e2
   obtain ⟨⟨e0, e1, e2⟩, -⟩ := bR.three
   clear hC
   have hC := hC7
   have hs7 := hK7.size
   clear hC7 hK7
   cases q2 with
   | false =>
    go_wp2_with fail
    refine (relV_k (w.heap.size + 3) g _ hC (by omega)).mono ?_
    rintro e wv ⟨sa, sn, sc, ms, rfl, pS, hSs, hCv, hKv⟩
    have Hs := Lib.hid hSs
    clear hSs
    have hsv := hKv.size
    replace b0 := b0.keep hKv (by omega)
    replace b1 := b1.keep hKv (by omega)
    replace b2 := b2.keep hKv (by omega)
    replace bR := bR.keep hKv (by omega)
    replace pR := pR.keep hKv (fun q hq => by omega)
    replace hKp := hKp.trans hKv
    clear hC
    go_wp2_with fail
    obtain ⟨wx, hwx⟩ : ∃ wx, wx = wv.alloc (.cells #[.int .i64 ms.rows, .int .i64 ms.cols, .slice sa sn sc] 26) := ⟨_, rfl⟩
    have hGx : Grow wv wx := by rw [hwx]; exact (Grow.refl wv).alloc _ _
    have bS : Blk wx wv.heap.size #[.int .i64 ms.rows, .int .i64 ms.cols, .slice sa sn sc] 26 := by rw [hwx]; exact Blk.new _ _ _
    have hC := hCv.grow hGx
    replace b0 := b0.grow hGx
    replace b1 := b1.grow hGx
    replace b2 := b2.grow hGx
    replace bR := bR.grow hGx
    replace pR := pR.grow hGx
    replace pS := pS.grow hGx
    replace hKp := hKp.trans hGx.any
    have hltv := bR.lt
    have hltS := bS.lt
    obtain ⟨⟨e0, e1, e2⟩, -⟩ := bR.three
    obtain ⟨⟨d0, d1, d2⟩, -⟩ := bS.three
    rw [← hwx]
    clear hwx hGx hKv hCv
    have nR : w2.heap.size ≠ g ∧ w2.heap.size ≠ w.heap.size ∧ w2.heap.size ≠ w.heap.size + 1 ∧ w2.heap.size ≠ w.heap.size + 1 + 1 := ⟨by omega, by omega, by omega, by omega⟩
    have nS : wv.heap.size ≠ g ∧ wv.heap.size ≠ w.heap.size ∧ wv.heap.size ≠ w.heap.size + 1 ∧ wv.heap.size ≠ w.heap.size + 1 + 1 := ⟨by omega, by omega, by omega, by omega⟩
    refine wp_region_segs (S := (Keep (fun q => q ≠ g ∧ q ≠ w.heap.size ∧ q ≠ w.heap.size + 1 ∧ q ≠ w.heap.size + 1 + 1) wx)) [([0, 1, 2, 3, 4, 5, 6, 7, 8, 9, 10], some 11), ([], some 12), ([], some 13), ([], some 14)] P_mixed (by kernel_rfl) (fun _ _ _ _ _ h => h) (Keep.refl _ _).drew ?_
    show wpQuiet _ _ _ _ [_, _, _, _, _, _, _, _, _, _, _] _
    repeat (first | go_big_quiet_skip | (go_big_quiet_want; first | (apply quiet_load3 T_mat; rfl; rfl; exact (fun w' hG => bR.keep hG nR); go_big_quiet_on; simp only [Act.put, List.setIfInBounds_toArray, List.set_cons_succ, List.set_cons_zero]) | (apply quiet_load3 T_mat; rfl; rfl; exact (fun w' hG => bS.keep hG nS); go_big_quiet_on; simp only [Act.put, List.setIfInBounds_toArray, List.set_cons_succ, List.set_cons_zero]) | (apply quiet_load CT_int; rfl; rfl; exact (fun w' hG => hG.cell nR e1); go_big_quiet_on; simp only [Act.put, List.setIfInBounds_toArray, List.set_cons_succ, List.set_cons_zero]) | (apply quiet_load CT_int; rfl; rfl; exact (fun w' hG => hG.cell nS d1); go_big_quiet_on; simp only [Act.put, List.setIfInBounds_toArray, List.set_cons_succ, List.set_cons_zero]) | (go_big_quiet_op; first | go_big_quiet_on | (refine ⟨_, (fun _ _ => rfl), ?_⟩; go_big_quiet_on))))
    refine wpQuiet_nil ?_
    refine seg_go rfl (fun K hK => ?_)
    obtain ⟨x, hx, ex⟩ := mm4 m.cols
    obtain ⟨y, hy, ey⟩ := mm4 ms.cols
    rw [ex, ey]
    generalize (if 4 < m.cols then (4 : Int) else m.cols) = ux
    generalize (if 4 < ms.cols then (4 : Int) else ms.cols) = uy
    clear ex ey
    go_wp2_with fail
    refine (l3DrawV_k (w.heap.size + 3) g x y 3 _ (hC.grow (Grow.refl _).drew) (by omega) (by omega) (by omega) (by show _ ≤ wx.heap.size; omega)).mono ?_
    rintro e wa ⟨fa, fn, fc, mf, rfl, p3, -, -, -, -, hCa, hKa⟩
    have hKd : Keep (fun q => q ≠ g) wx wa := ((Grow.refl wx).drew.any).trans hKa
    have r0 := b0.keep hKd (by omega)
    have r1 := b1.keep hKd (by omega)
    have r2 := b2.keep hKd (by omega)
    have p1 := pR.keep hKd (fun q hq => by omega)
    have p2 := pS.keep hKd (fun q hq => by omega)
    have hKw := hKp.trans hKd
    have hS : Keep (fun q => q ≠ g ∧ q ≠ w.heap.size ∧ q ≠ w.heap.size + 1 ∧ q ≠ w.heap.size + 1 + 1) wx wa := hKd.mono fun q _ h => h.1
    clear hC hKa b0 b1 b2 pR pS bR bS e0 e1 e2 d0 d1 d2
    go_wp2_with fail
    refine hK _ _ (hS) ?_
    clear hK K
    show wpQuiet _ _ _ _ [] _
    try (conv => arg 6; simp only [Act.put, List.setIfInBounds_toArray, List.set_cons_succ, List.set_cons_zero])
    refine wpQuiet_nil ?_
    refine seg_go rfl (fun K hK => ?_)
    obtain ⟨⟨u0, u1, u2⟩, f0, f1, f2⟩ := r0.three
    have hl0 := r0.lt
    go_wp2_with fail
    have k0 : Keep (fun q => q ≠ w.heap.size) wa (((wa.setCell ⟨w.heap.size, 0, none⟩ (.int .i64 m.rows)).setCell ⟨w.heap.size, 1, none⟩ (.int .i64 m.cols)).setCell ⟨w.heap.size, 2, none⟩ (.slice ra rn rc)) :=
     (((Keep.refl _ wa).setCell (fun _ e => e rfl) _).setCell (fun _ e => e rfl) _).setCell (fun _ e => e rfl) _
    have s0 := ((r0.set 0 (.int .i64 m.rows)).set 1 (.int .i64 m.cols)).set 2 (.slice ra rn rc)
    have s1 := r1.keep k0 (by omega)
    have s2 := r2.keep k0 (by omega)
    have z1 := p1.keep k0 (fun q hq => by omega)
    have z2 := p2.keep k0 (fun q hq => by omega)
    have z3 := p3.keep k0 (fun q hq => by omega)
    have hCb := hCa.keep k0 (fun q hq => by omega)
    have hKb := hKw.thru k0 (fun q hq _ => by omega)
    have hS0 := hS.trans (k0.mono fun q _ hb => hb.2.1)
    refine hK _ _ (hS0) ?_
    clear hK K
    generalize (((wa.setCell ⟨w.heap.size, 0, none⟩ (.int .i64 m.rows)).setCell ⟨w.heap.size, 1, none⟩ (.int .i64 m.cols)).setCell ⟨w.heap.size, 2, none⟩ (.slice ra rn rc)) = wb at *
    clear u0 u1 u2 f0 f1 f2 r0 r1 r2 p1 p2 p3 hl0
    show wpQuiet _ _ _ _ [] _
    try (conv => arg 6; simp only [Act.put, List.setIfInBounds_toArray, List.set_cons_succ, List.set_cons_zero])
    refine wpQuiet_nil ?_
    refine seg_go rfl (fun K hK => ?_)
    obtain ⟨⟨u0, u1, u2⟩, f0, f1, f2⟩ := s1.three
    have hl0 := s1.lt
    go_wp2_with fail
    have k1 : Keep (fun q => q ≠ w.heap.size + 1) wb (((wb.setCell ⟨w.heap.size + 1, 0, none⟩ (.int .i64 ms.rows)).setCell ⟨w.heap.size + 1, 1, none⟩ (.int .i64 ms.cols)).setCell ⟨w.heap.size + 1, 2, none⟩ (.slice sa sn sc)) :=
     (((Keep.refl _ wb).setCell (fun _ e => e rfl) _).setCell (fun _ e => e rfl) _).setCell (fun _ e => e rfl) _
    have t1 := ((s1.set 0 (.int .i64 ms.rows)).set 1 (.int .i64 ms.cols)).set 2 (.slice sa sn sc)
    have t0 := s0.keep k1 (by omega)
    have t2 := s2.keep k1 (by omega)
    have y1 := z1.keep k1 (fun q hq => by omega)
    have y2 := z2.keep k1 (fun q hq => by omega)
    have y3 := z3.keep k1 (fun q hq => by omega)
    have hCc := hCb.keep k1 (fun q hq => by omega)
    have hKc := hKb.thru k1 (fun q hq _ => by omega)
    have hS1 := hS0.trans (k1.mono fun q _ hb => hb.2.2.1)
    refine hK _ _ (hS1) ?_
    clear hK K
    generalize (((wb.setCell ⟨w.heap.size + 1, 0, none⟩ (.int .i64 ms.rows)).setCell ⟨w.heap.size + 1, 1, none⟩ (.int .i64 ms.cols)).setCell ⟨w.heap.size + 1, 2, none⟩ (.slice sa sn sc)) = wc at *
    clear u0 u1 u2 f0 f1 f2 s0 s1 s2 z1 z2 z3 hl0
    show wpQuiet _ _ _ _ [] _
    try (conv => arg 6; simp only [Act.put, List.setIfInBounds_toArray, List.set_cons_succ, List.set_cons_zero])
    refine wpQuiet_nil ?_
    refine seg_go rfl (fun K hK => ?_)
    obtain ⟨⟨u0, u1, u2⟩, f0, f1, f2⟩ := t2.three
    have hl0 := t2.lt
    go_wp2_with fail
    have k2 : Keep (fun q => q ≠ w.heap.size + 1 + 1) wc (((wc.setCell ⟨w.heap.size + 1 + 1, 0, none⟩ (.int .i64 mf.rows)).setCell ⟨w.heap.size + 1 + 1, 1, none⟩ (.int .i64 mf.cols)).setCell ⟨w.heap.size + 1 + 1, 2, none⟩ (.slice fa fn fc)) :=
     (((Keep.refl _ wc).setCell (fun _ e => e rfl) _).setCell (fun _ e => e rfl) _).setCell (fun _ e => e rfl) _
    have q2 := ((t2.set 0 (.int .i64 mf.rows)).set 1 (.int .i64 mf.cols)).set 2 (.slice fa fn fc)
    have q0 := t0.keep k2 (by omega)
    have q1 := t1.keep k2 (by omega)
    have x1 := y1.keep k2 (fun q hq => by omega)
    have x2 := y2.keep k2 (fun q hq => by omega)
    have x3 := y3.keep k2 (fun q hq => by omega)
    have hCd := hCc.keep k2 (fun q hq => by omega)
    have hKd := hKc.thru k2 (fun q hq _ => by omega)
    have hS2 := hS1.trans (k2.mono fun q _ hb => hb.2.2.2)
    refine hK _ _ (hS2) ?_
    clear hK K
    generalize (((wc.setCell ⟨w.heap.size + 1 + 1, 0, none⟩ (.int .i64 mf.rows)).setCell ⟨w.heap.size + 1 + 1, 1, none⟩ (.int .i64 mf.cols)).setCell ⟨w.heap.size + 1 + 1, 2, none⟩ (.slice fa fn fc)) = wd at *
    refine wpSegs_nil ?_
    go_wp2
    exact ret_cells3 T_mat T_mat T_mat rfl rfl rfl rfl rfl q0 q1 q2 ⟨_, _, _, rfl, x1.omk (by omega) Hr.out.sd, x2.omk (by omega) Hs.out.sd, x3.oms (by omega), hCd, hKd⟩
   | true =>
    have nRg : w2.heap.size ≠ g := by omega
    have hgx : g < wx.heap.size := by omega
    have h2x := hltR
    go_wp2_with fail
    refine wp_region_par (S := (fun w' => Keep (fun q => q ≠ g) wx w' ∧ Cur w' g)) (T := fun q => q ≠ g) [0, 1, 2, 3] [4, 6, 7] [5] [([], some 8)] P_mixed (by kernel_rfl) (fun _ _ _ _ _ h => h) ⟨(Keep.refl _ _).drew, hC.grow (Grow.refl _).drew⟩ ?_
    show wpQuiet _ _ _ _ [_, _, _, _] _
    repeat (first | go_big_quiet_skip | (go_big_quiet_want; first | (apply quiet_load CT_int; rfl; rfl; exact (fun w' hG => hG.1.cell nRg e1); go_big_quiet_on; simp only [Act.put, List.setIfInBounds_toArray, List.set_cons_succ, List.set_cons_zero]) | (go_big_quiet_op; refine ⟨_, (fun _ _ _ => rfl), ?_⟩; go_big_quiet_on) | (go_big_quiet_op; first | go_big_quiet_on | (refine ⟨_, (fun _ _ => rfl), ?_⟩; go_big_quiet_on))))
    refine wpQuiet_nil ?_
    refine ⟨by kernel_rfl, DrPostK wx.heap.size m.cols, fun _ _ => none, DrPostK.stays hgx, (fun _ _ _ _ _ h => by cases h), (fun _ _ _ => rfl), ?_, ?_, ?_⟩
    ·intro i hi o ho b w8 hGw hSw hdep hfr K hK
     obtain ⟨hS8, hC8⟩ := hSw
     have hs8 := hS8.size
     simp only [List.mem_cons, List.not_mem_nil, or_false] at hi
     rcases hi with rfl | rfl | rfl
     ·obtain rfl := Option.some.inj (show some _ = some _ from ho)
      refine par_call2 (x := .tmp 62) (y := .const (.int .i64 3)) rfl Tryz.func34 rfl rfl (hfr 62 (by decide)) rfl ?_
      refine (l1Below_c g 3 _ hC8 (by omega)).mono ?_
      rintro e w9 ⟨y, hy, rfl, hC9, hK9⟩
      exact ⟨_, rfl, hK _ w9 hK9 ⟨hS8.trans hK9, hC9⟩ ⟨y, hy, rfl⟩ (fun _ h => by cases h)⟩
     ·obtain rfl := Option.some.inj (show some _ = some _ from ho)
      obtain ⟨y, hy, d5⟩ : ∃ y : Nat, y ≤ 3 ∧ b.tmps.getD 64 undef = .int .i64 (y : Int) := hdep 5 (by decide) ⟨⟨5, .data⟩, by simp, rfl, rfl⟩ 64 rfl
      refine par_call4 (x := .tmp 59) (y := .tmp 61) (z := .tmp 64) (t := .const (.int .i64 3)) rfl Tryz.func48 rfl rfl (hfr 59 (by decide)) (hfr 61 (by decide)) d5 rfl ?_
      refine (l3DrawR_k wx.heap.size g C y 3 m.cols Hc.out _ hC8 hC24 (by omega) (by omega) hs8).mono ?_
      rintro e w9 ⟨a', n', c', md, rfl, pD, hd1, hd2, hd3, hd4, hC9, hK9⟩
      exact ⟨_, rfl, hK _ w9 hK9 ⟨hS8.trans hK9, hC9⟩ ⟨md, a', n', c', rfl, pD, by rw [hd1, Hc.out], hd3, by omega, fun x hx => by have := hd4 x hx; omega⟩ (fun _ h => by cases h)⟩
     ·obtain rfl := Option.some.inj (show some _ = some _ from ho)
      refine par_alloc (z := .agg #[.int .i64 0, .int .i64 0, .slice none 0 0]) rfl (by rfl) ?_
      have hA := (Grow.refl w8).alloc (#[.int .i64 0, .int .i64 0, .slice none 0 0]) 26
      exact hK _ _ hA.any ⟨hS8.trans hA.any, hC8.grow hA⟩ ⟨w8.heap.size, rfl, hs8, Blk.new _ _ _⟩ (fun _ h => by cases h)
    ·intro i hi o ho b w8 hGw hSw hdep hfr
     simp only [List.mem_cons, List.not_mem_nil, or_false] at hi
     subst hi
     obtain rfl := Option.some.inj (show some _ = some _ from ho)
     obtain ⟨y, hy, d4⟩ : ∃ y : Nat, (y < 3 ∨ y = 0) ∧ b.tmps.getD 63 undef = .int .i64 (y : Int) := hdep 4 (by decide) ⟨⟨4, .data⟩, by simp, rfl, rfl⟩ 63 rfl
     refine ⟨.int .i64 (IntKind.i64.wrap (1 + (y : Int))), fun w' _ => free_add1 (x := .tmp 63) rfl d4 w', 1 + y, by omega, by rw [IntWalk.i64_in _ (by omega)]; rfl⟩
    ·intro vs w8 hGw hSw hP _
     obtain ⟨hS8, hC8⟩ := hSw
     obtain ⟨y, -, i4⟩ : ∃ y : Nat, (y < 3 ∨ y = 0) ∧ vs 4 = .int .i64 (y : Int) := hP 4 (by decide)
     obtain ⟨z, -, i5⟩ : ∃ z : Nat, z ≤ 3 ∧ vs 5 = .int .i64 (z : Int) := hP 5 (by decide)
     obtain ⟨md, da, dn, dc, i6, pD, hd1, hd3, hd5, hd6⟩ : OMdK wx.heap.size m.cols w8 (vs 6) := hP 6 (by decide)
     obtain ⟨gd, i7, hgd, bD⟩ : ∃ g, vs 7 = .pointer (some ⟨g, 0, none⟩) ∧ wx.heap.size ≤ g ∧ Blk w8 g #[.int .i64 0, .int .i64 0, .slice none 0 0] 26 := hP 7 (by decide)
     have hne := pD.own.ne_blkD bD (by decide)
     have hMF : mulFit m md = true := by unfold mulFit; rw [Hmb.out, hd3, hd1]; simp
     have Hm := Lib.hid (Hr.out.mul hMF hd5 hd6)
     clear hd1 hd3 hd5 hd6
     apply fill_to
     ·show _ = ([some 63, some 65, some 9, some 64] : List (Option Tmp))
      kernel_rfl
     simp only [fillD, List.cons_append, List.nil_append, List.map_cons, List.map_nil, List.zip_cons_cons, List.zip_nil_right, Act.put, List.setIfInBounds_toArray, List.set_cons_succ, List.set_cons_zero]
     refine ⟨?_⟩
     rw [i4, i5, i6, i7]
     show wpQuiet _ _ _ _ [] _
     try (conv => arg 6; simp only [Act.put, List.setIfInBounds_toArray, List.set_cons_succ, List.set_cons_zero])
     refine wpQuiet_nil ?_
     refine seg_go rfl (fun K hK => ?_)
     replace b0 := b0.keep hS8 (by omega)
     replace b1 := b1.keep hS8 (by omega)
     replace b2 := b2.keep hS8 (by omega)
     replace bR := bR.keep hS8 (by omega)
     replace pR := pR.keep2 hS8 (fun q hq => by have := pR.low q hq; have := hRlt q hq; show q ≠ _; omega)
     replace hKp := hKp.thru hS8 (fun q hq (h : q ≠ g) => by show q ≠ _; omega)
     replace hltR := bR.lt
     clear e0 e1 e2
     obtain ⟨⟨e0, e1, e2⟩, -⟩ := bR.three
     obtain ⟨⟨u0, u1, u2⟩, f0, f1, f2⟩ := bD.three
     have hlD := bD.lt
     go_wp2_with fail
     have hKf : Keep (fun q => q ≠ gd) w8 (((w8.setCell ⟨gd, 0, none⟩ (.int .i64 md.rows)).setCell ⟨gd, 1, none⟩ (.int .i64 md.cols)).setCell ⟨gd, 2, none⟩ (.slice da dn dc)) :=
      (((Keep.refl _ w8).setCell (fun _ e => e rfl) _).setCell (fun _ e => e rfl) _).setCell (fun _ e => e rfl) _
     have bD9 := ((bD.set 0 (.int .i64 md.rows)).set 1 (.int .i64 md.cols)).set 2 (.slice da dn dc)
     have hC9 := hC8.keep hKf (fun q hq => by omega)
     have hs9 := hKf.size
     refine hK _ _ ⟨hS8.thru hKf (fun q hq _ => by show q ≠ _; omega), hC9⟩ ?_
     generalize (((w8.setCell ⟨gd, 0, none⟩ (.int .i64 md.rows)).setCell ⟨gd, 1, none⟩ (.int .i64 md.cols)).setCell ⟨gd, 2, none⟩ (.slice da dn dc)) = w9 at *
     replace b0 := b0.keep hKf (by omega)
     replace b1 := b1.keep hKf (by omega)
     replace b2 := b2.keep hKf (by omega)
     replace bR := bR.keep hKf (by omega)
     replace pR := pR.keep2 hKf (fun q hq => by have := pR.low q hq; have := hRlt q hq; show q ≠ _; omega)
     replace hKp := hKp.thru hKf (fun q hq (h : q ≠ g) => by show q ≠ _; omega)
     replace hltR := bR.lt
     clear e0 e1 e2
     obtain ⟨⟨e0, e1, e2⟩, -⟩ := bR.three
     replace pD := pD.keep2 hKf (fun q hq e => hne (e ▸ hq))
     clear u0 u1 u2 f0 f1 f2 hK K hP hGw hC
     refine wpSegs_nil ?_
     have hC := hC9
     have hltD := bD9.lt
     have h29 := hltR
     have nR : w2.heap.size ≠ g ∧ w2.heap.size ≠ w.heap.size ∧ w2.heap.size ≠ w.heap.size + 1 ∧ w2.heap.size ≠ w.heap.size + 1 + 1 := ⟨by omega, by omega, by omega, by omega⟩
     have nD : gd ≠ g ∧ gd ≠ w.heap.size ∧ gd ≠ w.heap.size + 1 ∧ gd ≠ w.heap.size + 1 + 1 := ⟨by omega, by omega, by omega, by omega⟩
     go_wp2_with fail
     refine wp_region_segs (S := (Keep (fun q => q ≠ g ∧ q ≠ w.heap.size ∧ q ≠ w.heap.size + 1 ∧ q ≠ w.heap.size + 1 + 1) w9)) [([0, 1, 2, 4], some 3), ([], some 5), ([], some 6), ([], some 7)] P_mixed (by kernel_rfl) (fun _ _ _ _ _ h => h) (Keep.refl _ _).drew ?_
     show wpQuiet _ _ _ _ [_, _, _, _] _
     repeat (first | go_big_quiet_skip | (go_big_quiet_want; first | (apply quiet_load3 T_mat; rfl; rfl; exact (fun w' hG => bR.keep hG nR); go_big_quiet_on; simp only [Act.put, List.setIfInBounds_toArray, List.set_cons_succ, List.set_cons_zero]) | (apply quiet_load3 T_mat; rfl; rfl; exact (fun w' hG => bD9.keep hG nD); go_big_quiet_on; simp only [Act.put, List.setIfInBounds_toArray, List.set_cons_succ, List.set_cons_zero]) | (go_big_quiet_op; first | go_big_quiet_on | (refine ⟨_, (fun _ _ => rfl), ?_⟩; go_big_quiet_on))))
     refine wpQuiet_nil ?_
     refine seg_go rfl (fun K hK => ?_)
     go_wp2_with fail
     have hGd : Grow w9 w9.drew := (Grow.refl _).drew
     refine (l3Mul_v (pR.grow hGd).vm (pD.grow hGd).vm hMF).mono ?_
     rintro e wa ⟨r, rfl, hO, hGm⟩
     have hGa := hGd.trans hGm
     have hsd := hGd.size
     obtain ⟨ta, tn, tc, rfl, p2⟩ := OMx.of (B := w.heap.size + 3) hO (fun q hq => by have := hq.1; omega) (Nat.le_trans (mulM_bd hMF) (by decide))
     generalize mulM m md = mp at *
     have r0 := b0.grow hGa
     have r1 := b1.grow hGa
     have r2 := b2.grow hGa
     have p1 := pR.grow hGa
     have p3 := pD.grow hGa
     have hCa := hC.grow hGa
     have hKw := hKp.trans hGa.any
     have hS : Keep (fun q => q ≠ g ∧ q ≠ w.heap.size ∧ q ≠ w.heap.size + 1 ∧ q ≠ w.heap.size + 1 + 1) w9 wa := hGa.any
     clear hC hC9 b0 b1 b2 pR pD bD9 bR e0 e1 e2 hGd hGm
     go_wp2_with fail
     refine hK _ _ (hS) ?_
     clear hK K
     show wpQuiet _ _ _ _ [] _
     try (conv => arg 6; simp only [Act.put, List.setIfInBounds_toArray, List.set_cons_succ, List.set_cons_zero])
     refine wpQuiet_nil ?_
     refine seg_go rfl (fun K hK => ?_)
     obtain ⟨⟨u0, u1, u2⟩, f0, f1, f2⟩ := r0.three
     have hl0 := r0.lt
     go_wp2_with fail
     have k0 : Keep (fun q => q ≠ w.heap.size) wa (((wa.setCell ⟨w.heap.size, 0, none⟩ (.int .i64 m.rows)).setCell ⟨w.heap.size, 1, none⟩ (.int .i64 m.cols)).setCell ⟨w.heap.size, 2, none⟩ (.slice ra rn rc)) :=
      (((Keep.refl _ wa).setCell (fun _ e => e rfl) _).setCell (fun _ e => e rfl) _).setCell (fun _ e => e rfl) _
     have s0 := ((r0.set 0 (.int .i64 m.rows)).set 1 (.int .i64 m.cols)).set 2 (.slice ra rn rc)
     have s1 := r1.keep k0 (by omega)
     have s2 := r2.keep k0 (by omega)
     have z1 := p1.keep k0 (fun q hq => by omega)
     have z2 := p2.keep k0 (fun q hq => by omega)
     have z3 := p3.keep k0 (fun q hq => by omega)
     have hCb := hCa.keep k0 (fun q hq => by omega)
     have hKb := hKw.thru k0 (fun q hq _ => by omega)
     have hS0 := hS.trans (k0.mono fun q _ hb => hb.2.1)
     refine hK _ _ (hS0) ?_
     clear hK K
     generalize (((wa.setCell ⟨w.heap.size, 0, none⟩ (.int .i64 m.rows)).setCell ⟨w.heap.size, 1, none⟩ (.int .i64 m.cols)).setCell ⟨w.heap.size, 2, none⟩ (.slice ra rn rc)) = wb at *
     clear u0 u1 u2 f0 f1 f2 r0 r1 r2 p1 p2 p3 hl0
     show wpQuiet _ _ _ _ [] _
     try (conv => arg 6; simp only [Act.put, List.setIfInBounds_toArray, List.set_cons_succ, List.set_cons_zero])
     refine wpQuiet_nil ?_
     refine seg_go rfl (fun K hK => ?_)
     obtain ⟨⟨u0, u1, u2⟩, f0, f1, f2⟩ := s1.three
     have hl0 := s1.lt
     go_wp2_with fail
     have k1 : Keep (fun q => q ≠ w.heap.size + 1) wb (((wb.setCell ⟨w.heap.size + 1, 0, none⟩ (.int .i64 mp.rows)).setCell ⟨w.heap.size + 1, 1, none⟩ (.int .i64 mp.cols)).setCell ⟨w.heap.size + 1, 2, none⟩ (.slice ta tn tc)) :=
      (((Keep.refl _ wb).setCell (fun _ e => e rfl) _).setCell (fun _ e => e rfl) _).setCell (fun _ e => e rfl) _
     have t1 := ((s1.set 0 (.int .i64 mp.rows)).set 1 (.int .i64 mp.cols)).set 2 (.slice ta tn tc)
     have t0 := s0.keep k1 (by omega)
     have t2 := s2.keep k1 (by omega)
     have y1 := z1.keep k1 (fun q hq => by omega)
     have y2 := z2.keep k1 (fun q hq => by omega)
     have y3 := z3.keep k1 (fun q hq => by omega)
     have hCc := hCb.keep k1 (fun q hq => by omega)
     have hKc := hKb.thru k1 (fun q hq _ => by omega)
     have hS1 := hS0.trans (k1.mono fun q _ hb => hb.2.2.1)
     refine hK _ _ (hS1) ?_
     clear hK K
     generalize (((wb.setCell ⟨w.heap.size + 1, 0, none⟩ (.int .i64 mp.rows)).setCell ⟨w.heap.size + 1, 1, none⟩ (.int .i64 mp.cols)).setCell ⟨w.heap.size + 1, 2, none⟩ (.slice ta tn tc)) = wc at *
     clear u0 u1 u2 f0 f1 f2 s0 s1 s2 z1 z2 z3 hl0
     show wpQuiet _ _ _ _ [] _
     try (conv => arg 6; simp only [Act.put, List.setIfInBounds_toArray, List.set_cons_succ, List.set_cons_zero])
     refine wpQuiet_nil ?_
     refine seg_go rfl (fun K hK => ?_)
     obtain ⟨⟨u0, u1, u2⟩, f0, f1, f2⟩ := t2.three
     have hl0 := t2.lt
     go_wp2_with fail
     have k2 : Keep (fun q => q ≠ w.heap.size + 1 + 1) wc (((wc.setCell ⟨w.heap.size + 1 + 1, 0, none⟩ (.int .i64 md.rows)).setCell ⟨w.heap.size + 1 + 1, 1, none⟩ (.int .i64 md.cols)).setCell ⟨w.heap.size + 1 + 1, 2, none⟩ (.slice da dn dc)) :=
      (((Keep.refl _ wc).setCell (fun _ e => e rfl) _).setCell (fun _ e => e rfl) _).setCell (fun _ e => e rfl) _
     have q2 := ((t2.set 0 (.int .i64 md.rows)).set 1 (.int .i64 md.cols)).set 2 (.slice da dn dc)
     have q0 := t0.keep k2 (by omega)
     have q1 := t1.keep k2 (by omega)
     have x1 := y1.keep k2 (fun q hq => by omega)
     have x2 := y2.keep k2 (fun q hq => by omega)
     have x3 := y3.keep k2 (fun q hq => by omega)
     have hCd := hCc.keep k2 (fun q hq => by omega)
     have hKd := hKc.thru k2 (fun q hq _ => by omega)
     have hS2 := hS1.trans (k2.mono fun q _ hb => hb.2.2.2)
     refine hK _ _ (hS2) ?_
     clear hK K
     generalize (((wc.setCell ⟨w.heap.size + 1 + 1, 0, none⟩ (.int .i64 md.rows)).setCell ⟨w.heap.size + 1 + 1, 1, none⟩ (.int .i64 md.cols)).setCell ⟨w.heap.size + 1 + 1, 2, none⟩ (.slice da dn dc)) = wd at *
     refine wpSegs_nil ?_
     go_wp2
     exact ret_cells3 T_mat T_mat T_mat rfl rfl rfl rfl rfl q0 q1 q2 ⟨_, _, _, rfl, x1.omk (by omega) Hr.out.sd, x2.omk (by omega) Hm.out, x3.oms (by omega), hCd, hKd⟩
end Go.Proofs.YtoiblknchcoecaaGreat

namespace Go.Proofs.YtoiblknchcoecaaGreat
open Go.RowKit
def KPost (w w' : World) (v1 v2 v3 : Value) : Prop := OMk w.heap.size Sd w' v1 ∧ OMk w.heap.size Sd w' v2 ∧ OMs w.heap.size w' v3 ∧ Grow w w'
theorem DrawKernelIn_c {S : Nat → Prop} (a : Option Addr) (n cap : Nat) (bs : List Int) (w : World) (h : RdB w S a n cap bs) (hn : n ≤ 1048577) :
  Calls Tryz.prog 6 #[.slice a n cap] w fun e w' => ∃ v1 v2 v3, e = .returned (.tuple #[v1, v2, v3]) ∧ KPost w w' v1 v2 v3 := by
 obtain ⟨w1, hw1⟩ : ∃ w1, w1 = ((w.alloc (.cells #[.int .i64 0, .int .i64 0, .slice none 0 0] 26)).alloc (.cells #[.int .i64 0, .int .i64 0, .slice none 0 0] 26)).alloc (.cells #[.int .i64 0, .int .i64 0, .slice none 0 0] 26) := ⟨_, rfl⟩
 have hG1 : Grow w w1 := by rw [hw1]; exact (((Grow.refl w).alloc _ _).alloc _ _).alloc _ _
 have b0 : Blk w1 w.heap.size #[.int .i64 0, .int .i64 0, .slice none 0 0] 26 := by rw [hw1]; exact ((Blk.new _ _ _).alloc _).alloc _
 have b1 : Blk w1 (w.heap.size + 1) #[.int .i64 0, .int .i64 0, .slice none 0 0] 26 := by rw [hw1]; exact (Blk.newAt _ _ _ (by simp)).alloc _
 have b2 : Blk w1 (w.heap.size + 1 + 1) #[.int .i64 0, .int .i64 0, .slice none 0 0] 26 := by rw [hw1]; exact Blk.newAt _ _ _ (by simp)
 have hs1 := b2.lt
 go_enter Tryz.func6, Tryz.ntmps6
 go_wp2_with fail
 rw [← hw1]
 clear hw1
 refine (l1New_c _ _ _ bs _ (h.grow hG1) hn).mono ?_
 rintro e w2 ⟨g, hg, rfl, hC, hG2⟩
 have hs2 := hG2.size
 replace b0 := b0.grow hG2
 replace b1 := b1.grow hG2
 replace b2 := b2.grow hG2
 go_wp2_with fail
 refine (l31Map_k g _ hC).mono ?_
 rintro e wa ⟨v1, v2, v3, rfl, ⟨m1, a1, n1, c1, rfl, p1, d1⟩, ⟨m2, a2, n2, c2, rfl, p2, d2⟩, ⟨m3, a3, n3, c3, rfl, p3⟩, hCa, hKa⟩
 have D1 := Lib.hid d1
 have D2 := Lib.hid d2
 replace b0 := b0.keep hKa (by omega)
 replace b1 := b1.keep hKa (by omega)
 replace b2 := b2.keep hKa (by omega)
 have hKw : Keep (fun q => q < w.heap.size) w wa := ((hG1.trans hG2).any).thru hKa fun q hq _ => by omega
 clear hC hKa hG1 hG2 hCa d1 d2 h
 obtain ⟨⟨x00, x01, x02⟩, f00, f01, f02⟩ := b0.three
 obtain ⟨⟨x10, x11, x12⟩, f10, f11, f12⟩ := b1.three
 obtain ⟨⟨x20, x21, x22⟩, f20, f21, f22⟩ := b2.three
 have hl0 := b0.lt
 have hl1 := b1.lt
 have hl2 := b2.lt
 have k0 : Keep (fun q => q ≠ w.heap.size) wa (((wa.setCell ⟨w.heap.size, 0, none⟩ (.int .i64 m1.rows)).setCell ⟨w.heap.size, 1, none⟩ (.int .i64 m1.cols)).setCell ⟨w.heap.size, 2, none⟩ (.slice a1 n1 c1)) :=
  (((Keep.refl _ wa).setCell (fun _ e => e rfl) _).setCell (fun _ e => e rfl) _).setCell (fun _ e => e rfl) _
 obtain ⟨wb, hwb⟩ : ∃ wb, wb = (((wa.setCell ⟨w.heap.size, 0, none⟩ (.int .i64 m1.rows)).setCell ⟨w.heap.size, 1, none⟩ (.int .i64 m1.cols)).setCell ⟨w.heap.size, 2, none⟩ (.slice a1 n1 c1)) := ⟨_, rfl⟩
 have k1 : Keep (fun q => q ≠ w.heap.size + 1) wb (((wb.setCell ⟨w.heap.size + 1, 0, none⟩ (.int .i64 m2.rows)).setCell ⟨w.heap.size + 1, 1, none⟩ (.int .i64 m2.cols)).setCell ⟨w.heap.size + 1, 2, none⟩ (.slice a2 n2 c2)) :=
  (((Keep.refl _ wb).setCell (fun _ e => e rfl) _).setCell (fun _ e => e rfl) _).setCell (fun _ e => e rfl) _
 obtain ⟨wc, hwc⟩ : ∃ wc, wc = (((wb.setCell ⟨w.heap.size + 1, 0, none⟩ (.int .i64 m2.rows)).setCell ⟨w.heap.size + 1, 1, none⟩ (.int .i64 m2.cols)).setCell ⟨w.heap.size + 1, 2, none⟩ (.slice a2 n2 c2)) := ⟨_, rfl⟩
 have k2 : Keep (fun q => q ≠ w.heap.size + 1 + 1) wc (((wc.setCell ⟨w.heap.size + 1 + 1, 0, none⟩ (.int .i64 m3.rows)).setCell ⟨w.heap.size + 1 + 1, 1, none⟩ (.int .i64 m3.cols)).setCell ⟨w.heap.size + 1 + 1, 2, none⟩ (.slice a3 n3 c3)) :=
  (((Keep.refl _ wc).setCell (fun _ e => e rfl) _).setCell (fun _ e => e rfl) _).setCell (fun _ e => e rfl) _
 rw [← hwb] at k0
 rw [← hwc] at k1
 have s0 : Blk wb _ _ _ := hwb ▸ ((b0.set 0 (.int .i64 m1.rows)).set 1 (.int .i64 m1.cols)).set 2 (.slice a1 n1 c1)
 have s1 := b1.keep k0 (by omega)
 have s2 := b2.keep k0 (by omega)
 have t1 : Blk wc _ _ _ := hwc ▸ ((s1.set 0 (.int .i64 m2.rows)).set 1 (.int .i64 m2.cols)).set 2 (.slice a2 n2 c2)
 have t0 := s0.keep k1 (by omega)
 have t2 := s2.keep k1 (by omega)
 have q2 := ((t2.set 0 (.int .i64 m3.rows)).set 1 (.int .i64 m3.cols)).set 2 (.slice a3 n3 c3)
 have q0 := t0.keep k2 (by omega)
 have q1 := t1.keep k2 (by omega)
 have y1 := ((p1.keep k0 (fun q hq => by omega)).keep k1 (fun q hq => by omega)).keep k2 (fun q hq => by omega)
 have y2 := ((p2.keep k0 (fun q hq => by omega)).keep k1 (fun q hq => by omega)).keep k2 (fun q hq => by omega)
 have y3 := ((p3.keep k0 (fun q hq => by omega)).keep k1 (fun q hq => by omega)).keep k2 (fun q hq => by omega)
 have hK2 := ((hKw.thru k0 (fun q _ hq => by omega)).thru k1 (fun q _ hq => by omega)).thru k2 (fun q _ hq => by omega)
 have hG : Grow w _ := hK2.mono fun q hq _ => hq
 have R : KPost w _ (.agg #[.int .i64 m1.rows, .int .i64 m1.cols, .slice a1 n1 c1]) (.agg #[.int .i64 m2.rows, .int .i64 m2.cols, .slice a2 n2 c2]) (.agg #[.int .i64 m3.rows, .int .i64 m3.cols, .slice a3 n3 c3]) := ⟨y1.omk (by omega) D1.out, y2.omk (by omega) D2.out, y3.oms (by omega), hG⟩
 rw [hwc, hwb] at q0 q1 q2 R
 have HR := Lib.hid R
 clear R hG hK2 y1 y2 y3 t0 t1 t2 s0 s1 s2 k0 k1 k2 hKw p1 p2 p3 b0 b1 b2 hwb hwc
 have Q0 := Lib.hid q0
 have Q1 := Lib.hid q1
 have Q2 := Lib.hid q2
 clear q0 q1 q2
 go_wp2
 exact ret_cells3 T_mat T_mat T_mat rfl rfl rfl rfl rfl Q0.out Q1.out Q2.out ⟨_, _, _, rfl, HR.out⟩
end Go.Proofs.YtoiblknchcoecaaGreat
