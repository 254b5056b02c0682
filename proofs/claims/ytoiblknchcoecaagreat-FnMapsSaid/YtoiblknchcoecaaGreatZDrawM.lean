/-
  The draws of matrices, relations and maps.
-/
import Derived.Test.YtoiblknchcoecaaGreatZDraw
import Derived.Test.YtoiblknchcoecaaGreatZInts
import Derived.Test.YtoiblknchcoecaaGreatZBase
set_option maxHeartbeats 8000000
set_option maxRecDepth 100000
namespace Go.Proofs.YtoiblknchcoecaaGreat
open Go.RowKit
theorem Own.at1 {w : World} {e : TypeId} {sz n cap : Nat} {a : Option Addr} {cs : List Value} (h : Own w e sz a n cap cs) (hn : 0 < n) : ∃ g, a = some ⟨g, 0, none⟩ := by
 cases a with
 | none => have := h.nil rfl; have := h.le; omega
 | some p => exact ⟨p.block, by rw [← (h.block p rfl).1]⟩
theorem l3DrawG_c (g r c m : Nat) (w : World) (h : Cur w g) (hr : r ≤ 24) (hc : c ≤ 24) (hm : m ≤ 100) :
  Calls Tryz.prog 48 #[.pointer (some ⟨g, 0, none⟩), .int .i64 r, .int .i64 c, .int .i64 m] w fun e w' => ∃ (a : Option Addr) (xs : List Int), e = .returned (.agg #[.int .i64 r, .int .i64 c, .slice a (r * c) (r * c)]) ∧
   Own w' 3 1 a (r * c) (r * c) (ints xs) ∧ (∀ x ∈ xs, -(m : Int) ≤ x ∧ x ≤ m) ∧ (∀ q, blk a = some q → w.heap.size ≤ q) ∧ Cur w' g ∧ Keep (fun q => q ≠ g) w w' := by
 have hlt := h.lt
 have hrc : r * c ≤ 24 * 24 := Nat.mul_le_mul hr hc
 have hG1 := (Grow.refl w).alloc #[.int .i64 0, .int .i64 0, .slice none 0 0] 26
 have bZ := Blk.new w #[.int .i64 0, .int .i64 0, .slice none 0 0] 26
 have hle0 : w.heap.size ≤ w.heap.size := Nat.le_refl _
 go_enter Tryz.func48, Tryz.ntmps48
 go_wp2_with fail
 refine (l3New_c r c _ (by omega) (by omega)).mono ?_
 rintro e w1 ⟨a, rfl, hO, hlo, hG2⟩
 have hs1 := hG2.size
 have hG3 := (hG1.trans hG2).alloc #[.int .i64 r, .int .i64 c, .slice a (r * c) (r * c)] 26
 have bM := Blk.newAt w1 #[.int .i64 r, .int .i64 c, .slice a (r * c) (r * c)] 26 rfl
 have bZ3 := (bZ.grow hG2).alloc (.cells #[.int .i64 r, .int .i64 c, .slice a (r * c) (r * c)] 26)
 have hO3 := hO.grow ((Grow.refl w1).alloc #[.int .i64 r, .int .i64 c, .slice a (r * c) (r * c)] 26)
 have hC3 := h.grow hG3
 simp at hs1
 have hpg : ∀ p, blk a = some p → w.heap.size + 1 ≤ p ∧ p < w1.heap.size := fun p hp => by have := hlo p hp; have := hO.lt hp; simp at *; omega
 have hgs : w.heap.size + 1 ≤ w1.heap.size := by omega
 generalize hrce : r * c = rc at *
 have Hrc := Lib.hid hrce
 clear hO hlo hG2 hG1 bZ hs1 h hrce hr hc
 go_wp2
 go_loopw [10] (fun iv wr => Keep (fun q => q ≠ g) w wr ∧ Cur wr g ∧ Blk wr w.heap.size #[.int .i64 0, .int .i64 0, .slice none 0 0] 26 ∧ Blk wr w1.heap.size #[.int .i64 r, .int .i64 c, .slice a rc rc] 26 ∧ ∃ (k : Nat) (xs : List Int), k ≤ rc ∧ iv = .int .i64 k ∧ Own wr 3 1 a rc rc (ints xs) ∧ (∀ x ∈ xs, -(m : Int) ≤ x ∧ x ≤ m)) (fun iv _ => rc - (intOf iv).toNat)
 case atStart => exact ⟨hG3.any, hC3, bZ3, bM, 0, List.replicate rc 0, Nat.zero_le _, rfl, hO3, fun x hx => by obtain rfl := List.eq_of_mem_replicate hx; omega⟩
 case round =>
  clear hG3 hC3 bZ3 bM hO3
  obtain ⟨hKr, hC, bZr, bMr, k, xs, hk, rfl, hO, hx⟩ := hrel
  obtain ⟨⟨m0, m1, m2⟩, -⟩ := bMr.three
  have hltM := bMr.lt
  by_cases hlt2 : k < rc
  ·have hxl : xs.length = rc := by simpa using hO.len
   obtain ⟨p, rfl⟩ := hO.at1 (by omega)
   have hpg := hpg p rfl
   have hng : g ≠ w1.heap.size := by omega
   have hCr := hC
   go_wp2
   have hpgr : p ≠ g := by omega
   have hngp : w1.heap.size ≠ p := by omega
   refine wp_region_segs (S := (Keep (fun q => q ≠ g ∧ q ≠ p) wr)) [([0, 1, 2, 3, 4, 5, 6, 8], some 7), ([9, 10], some 11)] P_mixed (by kernel_rfl) (fun _ _ _ _ _ h => h) (Keep.refl _ _).drew ?_
   show wpQuiet _ _ _ _ [_, _, _, _, _, _, _, _] _
   repeat (first | go_big_quiet_skip | (go_big_quiet_want; first | (apply quiet_load CT_ints; rfl; rfl; exact (fun w' hG => hG.cell ⟨hng.symm, hngp⟩ m2); go_big_quiet_on; simp only [Act.put, List.setIfInBounds_toArray, List.set_cons_succ, List.set_cons_zero]) | (go_big_quiet_op; first | go_big_quiet_on | (refine ⟨_, (fun _ _ => rfl), ?_⟩; go_big_quiet_on))))
   refine wpQuiet_nil ?_
   refine seg_go rfl (fun K hK => ?_)
   go_wp2_with fail
   rw [show ((2 : Int) * (m : Int) + 1) = ((2 * m + 1 : Nat) : Int) by omega]
   refine (l1Below_c g (2 * m + 1) _ (hC.grow (Grow.refl _).drew) (by omega)).mono ?_
   rintro e w3 ⟨y, hy, rfl, hC3, hK3⟩
   have hKa : Keep (fun q => q ≠ g) wr w3 := ((Grow.refl wr).drew.any).trans hK3
   have hO3 := hO.keep hKa (fun q hq _ e => by simp at hq; omega)
   have bZ3 := bZr.keep hKa (by omega)
   have bM3 := bMr.keep hKa hng.symm
   obtain ⟨x, hxk⟩ : ∃ x, xs[k]? = some x := ⟨_, List.getElem?_eq_getElem (by omega)⟩
   have hce := hO3.cell (j := k) (c := .int .i64 x) (by unfold ints; rw [List.getElem?_map, hxk]; rfl)
   have hfr := hO3.free k
   simp only at hce hfr
   clear hC hK3 bZr bMr hO m0 m1 m2
   go_wp2_with fail
   refine hK _ _ ((hKa.mono fun q _ h => h.1)) ?_
   clear hK K
   show wpQuiet _ _ _ _ [_, _] _
   try (conv => arg 6; simp only [Act.put, List.setIfInBounds_toArray, List.set_cons_succ, List.set_cons_zero])
   repeat (first | go_big_quiet_skip | (go_big_quiet_want; first | (apply quiet_load CT_ints; rfl; rfl; exact (fun w' hG => hG.cell ⟨hng.symm, hngp⟩ m2); go_big_quiet_on; simp only [Act.put, List.setIfInBounds_toArray, List.set_cons_succ, List.set_cons_zero]) | (go_big_quiet_op; first | go_big_quiet_on | (refine ⟨_, (fun _ _ => rfl), ?_⟩; go_big_quiet_on))))
   refine wpQuiet_nil ?_
   refine seg_go rfl (fun K hK => ?_)
   go_wp2_with fail
   have hKb : Keep (fun q => q ≠ p) w3 (w3.setCell ⟨p, k, none⟩ (.int .i64 ((y : Int) - m))) := (Keep.refl _ w3).setCell (fun _ e => e rfl) _
   refine hK _ _ (((hKa.mono fun q _ h => h.1).trans (hKb.mono fun q _ h => h.2))) ?_
   clear hK K
   refine wpSegs_nil ?_
   go_wp2
   go_roundw
   case rel => exact ⟨(hKr.trans hKa).setCell (fun e => absurd hpg.1 (by simp at e; omega)) _, hC3.keep hKb (fun q hq e => by omega), bZ3.keep hKb (by omega), bM3.keep hKb hngp, k + 1, xs.set k ((y : Int) - m), by omega, by go_num, by have := hO3.set k (.int .i64 ((y : Int) - m)); simpa [ints, List.map_set] using this, fun z hz => by rcases List.mem_or_eq_of_mem_set hz with h | rfl; exact hx z h; omega⟩
   case measure => simp [intOf]; omega
  ·obtain rfl : k = rc := by omega
   obtain ⟨⟨z0, z1, z2⟩, f0, f1, f2⟩ := bZr.three
   have hltZ := bZr.lt
   go_wp2
   have hKs : Keep (fun q => q ≠ w.heap.size) wr (((wr.setCell ⟨w.heap.size, 0, none⟩ (.int .i64 r)).setCell ⟨w.heap.size, 1, none⟩ (.int .i64 c)).setCell ⟨w.heap.size, 2, none⟩ (.slice a k k)) :=
    (((Keep.refl _ wr).setCell (fun _ e => e rfl) _).setCell (fun _ e => e rfl) _).setCell (fun _ e => e rfl) _
   obtain rfl : k = r * c := Hrc.out.symm
   exact ret_cell T_mat rfl rfl rfl (((bZr.set 0 _).set 1 _).set 2 _) ⟨a, xs, rfl, hO.keep hKs (fun q hq _ e => by have := hpg q hq; omega), hx, (fun q hq => by have := hpg q hq; omega), hC.keep hKs (fun q hq e => by omega), ((hKr.setCell (fun e => absurd e (Nat.lt_irrefl _)) _).setCell (fun e => absurd e (Nat.lt_irrefl _)) _).setCell (fun e => absurd e (Nat.lt_irrefl _)) _⟩
theorem Row.bAt6M {w : World} {S : Nat → Prop} {e : TypeId} {sz g : Nat} {cs : Array Value} (n : Nat) (hg : g = w.heap.size) (hn : n ≤ maxLen) (hs : cs.size = n * sz) (hS : ∀ b, S b) : Row (w.alloc (.cells cs e)) S sz (some ⟨g, 0, none⟩) n n cs.toList := by
 subst hg; exact Row.built n hn hs (hS _)
theorem RdI.litM {w : World} {S : Nat → Prop} {g n : Nat} {cs : Array Value} {t : TypeId} {xs : List Int} (h : Blk w g cs t) (hc : cs.toList = ints xs) (hn : n = xs.length) (hm : xs.length ≤ 100) (hr : ∀ x ∈ xs, I64 x) (hS : S g) : RdI w S (some ⟨g, 0, none⟩) n n xs :=
 ⟨⟨by simp [hn], Nat.le_refl _, by unfold maxLen; omega, (fun h => by cases h), fun _ => ⟨g, 0, rfl, hS, fun j c hj => by rw [Nat.zero_add, h.cell, ← hj, ← hc, Array.getElem?_toList]⟩⟩, hr⟩
theorem pickIntM_c {S : Nat → Prop} (g : Nat) (a : Option Addr) (n cap : Nat) (xs : List Int) (w : World) (h : Cur w g) (hr : RdI w S a n cap xs) (hS : ∀ q, S q → q ≠ g) (hn : 0 < n) (hn2 : n ≤ 256) :
  Calls Tryz.prog 100 #[.pointer (some ⟨g, 0, none⟩), .slice a n cap] w fun e w' => ∃ x, I64 x ∧ e = .returned (.int .i64 x) ∧ Cur w' g ∧ Keep (fun q => q ≠ g) w w' := by
 go_enter Tryz.func100, Tryz.ntmps100
 go_wp2_with fail
 refine (l1Below_c g n _ h hn2).mono ?_
 rintro e w1 ⟨k, hk, rfl, hC, hK⟩
 have hr1 := hr.keep hK (fun q _ hb => hS q hb)
 obtain ⟨b, off, x, rfl, hx, hxr, _, hbw, hc⟩ := hr1.at (k := k) (by omega)
 go_wp2
 go_ret
 exact ⟨x, hxr, rfl, hC, hK⟩
theorem l1Odd_c (g : Nat) (w : World) (h : Cur w g) :
  Calls Tryz.prog 101 #[.pointer (some ⟨g, 0, none⟩)] w fun e w' => ∃ x, I64 x ∧ e = .returned (.int .i64 x) ∧ Cur w' g ∧ Keep (fun q => q ≠ g) w w' := by
 have hlt := h.lt
 go_enter Tryz.func101, Tryz.ntmps101
 go_wp2_with fail
 have hR : RdI (w.alloc (.cells #[.int .i64 0, .int .i64 1, .int .i64 (-1), .int .i64 2, .int .i64 400000000, .int .i64 (-400000000), .int .i64 400000001, .int .i64 (-400000001), .int .i64 399999999, .int .i64 9223372036854775807, .int .i64 (-9223372036854775808)] 3)) (fun q => q = w.heap.size) (some ⟨w.heap.size, 0, none⟩) 11 11 [0, 1, -1, 2, 400000000, -400000000, 400000001, -400000001, 399999999, 9223372036854775807, -9223372036854775808] := RdI.litM (Blk.new _ _ _) rfl rfl (by simp) (by intro z hz; simp at hz; unfold I64; omega) rfl
 have hGa := (Grow.refl w).alloc #[.int .i64 0, .int .i64 1, .int .i64 (-1), .int .i64 2, .int .i64 400000000, .int .i64 (-400000000), .int .i64 400000001, .int .i64 (-400000001), .int .i64 399999999, .int .i64 9223372036854775807, .int .i64 (-9223372036854775808)] 3
 refine (pickIntM_c g _ _ _ _ _ (h.grow hGa) hR (fun q hq => by omega) (by omega) (by omega)).mono ?_
 rintro e w1 ⟨x, hx, rfl, hC, hK⟩
 go_wp2
 go_ret
 exact ⟨x, hx, rfl, hC, hGa.any.trans hK⟩
def DM (B : Nat) (w : World) (v : Value) (m : Mat) : Prop := OM w (fun q => B ≤ q) v m ∧ bdM m ≤ 2048
theorem DM.keep {B g : Nat} {w w' : World} {v : Value} {m : Mat} (h : DM B w v m) (hk : Keep (fun q => q ≠ g) w w') (hg : g < B) : DM B w' v m := ⟨h.1.keep hk (fun q _ hq => by omega), h.2⟩
theorem DM.grow {B : Nat} {w w' : World} {v : Value} {m : Mat} (h : DM B w v m) (hk : Grow w w') : DM B w' v m := ⟨h.1.grow hk, h.2⟩
theorem DM.low {B C : Nat} {w : World} {v : Value} {m : Mat} (h : DM B w v m) (hC : C ≤ B) : DM C w v m := by
 obtain ⟨⟨a, n, c, rfl, h1, h2, h3, h4, h5⟩, h6⟩ := h
 exact ⟨⟨a, n, c, rfl, h1, h2, fun q hq => by have := h3 q hq; omega, h4, h5⟩, h6⟩
end Go.Proofs.YtoiblknchcoecaaGreat
