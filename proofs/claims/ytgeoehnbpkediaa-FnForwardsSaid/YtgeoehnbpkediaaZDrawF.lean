/-
  The draws of definitions.
-/
import Derived.Test.YtgeoehnbpkediaaZDraw
import Derived.Test.YtgeoehnbpkediaaZStr
import Derived.Test.YtgeoehnbpkediaaZInts
import Derived.Test.YtgeoehnbpkediaaZBase
import Derived.Test.YtgeoehnbpkediaaZDef
set_option maxHeartbeats 8000000
set_option maxRecDepth 100000
namespace Go.Proofs.Ytgeoehnbpkediaa
open Go.RowKit
theorem l1Pick_c {S : Nat → Prop} (g : Nat) (a : Option Addr) (n cap : Nat) (xs : List ByteArray) (w : World) (h : Cur w g) (hr : RdS w S a n cap xs) (hS : ∀ q, S q → q ≠ g) (hn : 0 < n) (hn2 : n ≤ 256) :
  Calls Try.prog 48 #[.pointer (some ⟨g, 0, none⟩), .slice a n cap] w fun e w' => ∃ x, x ∈ xs ∧ e = .returned (.string x) ∧ Cur w' g ∧ Keep (fun q => q ≠ g) w w' := by
 go_enter Try.func48, Try.ntmps48
 go_wp2_with fail
 refine (l1Below_c g n _ h hn2).mono ?_
 rintro e w1 ⟨k, hk, rfl, hC, hK⟩
 have hr1 := hr.keep hK (fun q _ hb => hS q hb)
 obtain ⟨b, off, x, rfl, hx, _, hbw, hc⟩ := hr1.at (k := k) (by omega)
 go_wp2
 go_ret
 exact ⟨x, List.mem_of_getElem? hx, rfl, hC, hK⟩
theorem RdS.lit {w : World} {S : Nat → Prop} {g n : Nat} {cs : Array Value} {t : TypeId} {xs : List ByteArray} (h : Blk w g cs t) (hc : cs.toList = strs xs) (hn : n = xs.length) (hm : xs.length ≤ 100) (hS : S g) : RdS w S (some ⟨g, 0, none⟩) n n xs :=
 ⟨⟨by simp [hn], Nat.le_refl _, by unfold maxLen; omega, (fun h => by cases h), fun _ => ⟨g, 0, rfl, hS, fun j c hj => by rw [Nat.zero_add, h.cell, ← hj, ← hc, Array.getElem?_toList]⟩⟩, hn.symm⟩
theorem l36Name_c (g : Nat) (w : World) (h : Cur w g) :
  Calls Try.prog 30 #[.pointer (some ⟨g, 0, none⟩)] w fun e w' => ∃ s : ByteArray, s.size ≤ 1 ∧ e = .returned (.string s) ∧ Cur w' g ∧ Keep (fun q => q ≠ g) w w' := by
 have hlt := h.lt
 go_enter Try.func30, Try.ntmps30
 go_wp2_with fail
 have hR : RdS (w.alloc (.cells #[.string ⟨#[65]⟩, .string ⟨#[66]⟩, .string ⟨#[67]⟩, .string ⟨#[68]⟩, .string ⟨#[69]⟩] 9)) (fun q => q = w.heap.size) (some ⟨w.heap.size, 0, none⟩) 5 5 [⟨#[65]⟩, ⟨#[66]⟩, ⟨#[67]⟩, ⟨#[68]⟩, ⟨#[69]⟩] := RdS.lit (Blk.new _ _ _) rfl rfl (by simp) rfl
 have hGa := (Grow.refl w).alloc #[.string ⟨#[65]⟩, .string ⟨#[66]⟩, .string ⟨#[67]⟩, .string ⟨#[68]⟩, .string ⟨#[69]⟩] 9
 refine (l1Pick_c g _ _ _ _ _ (h.grow hGa) hR (fun q hq => by omega) (by omega) (by omega)).mono ?_
 rintro e w1 ⟨x, hx, rfl, hC, hK⟩
 go_wp2
 go_ret
 exact ⟨x, by simp at hx; rcases hx with rfl | rfl | rfl | rfl | rfl <;> decide, rfl, hC, hGa.any.trans hK⟩
theorem l3Draw_c (g r : Nat) (w : World) (h : Cur w g) (hr : 1 ≤ r ∧ r ≤ 2) :
  Calls Try.prog 31 #[.pointer (some ⟨g, 0, none⟩), .int .i64 r, .int .i64 2, .int .i64 3] w fun e w' => ∃ (a : Option Addr) (xs : List Int), e = .returned (.agg #[.int .i64 r, .int .i64 2, .slice a (r * 2) (r * 2)]) ∧
   Own w' 3 1 a (r * 2) (r * 2) (ints xs) ∧ (∀ x ∈ xs, I64 x) ∧ (∀ q, blk a = some q → w.heap.size ≤ q) ∧ Cur w' g ∧ Keep (fun q => q ≠ g) w w' := by
 have hlt := h.lt
 have hG1 := (Grow.refl w).alloc #[.int .i64 0, .int .i64 0, .slice none 0 0] 28
 have bZ := Blk.new w #[.int .i64 0, .int .i64 0, .slice none 0 0] 28
 have hle0 : w.heap.size ≤ w.heap.size := Nat.le_refl _
 go_enter Try.func31, Try.ntmps31
 go_wp2_with fail
 refine (l3New_c r 2 _ (by omega) (by omega)).mono ?_
 rintro e w1 ⟨a, rfl, hO, hlo, hG2⟩
 have hs1 := hG2.size
 have hG3 := (hG1.trans hG2).alloc #[.int .i64 r, .int .i64 2, .slice a (r * 2) (r * 2)] 28
 have bM := Blk.newAt w1 #[.int .i64 r, .int .i64 2, .slice a (r * 2) (r * 2)] 28 rfl
 have bZ3 := (bZ.grow hG2).alloc (.cells #[.int .i64 r, .int .i64 2, .slice a (r * 2) (r * 2)] 28)
 have hO3 := hO.grow ((Grow.refl w1).alloc #[.int .i64 r, .int .i64 2, .slice a (r * 2) (r * 2)] 28)
 have hC3 := h.grow hG3
 obtain ⟨p, hp⟩ : ∃ p, a = some ⟨p, 0, none⟩ := by
  cases a with
  | none => have := hO.nil rfl; have := hO.le; omega
  | some p => exact ⟨p.block, by rw [← (hO.block p rfl).1]⟩
 subst hp
 have hplo := hlo p rfl
 have hplt := hO.lt (g := p) rfl
 simp at hplo hs1
 have hpg : w.heap.size + 1 ≤ p ∧ p < w1.heap.size := by omega
 have hgs : w.heap.size + 1 < w1.heap.size := by omega
 clear hO hlo hG2 hG1 bZ hs1 hplt hplo h
 go_wp2
 go_loopw [10] (fun iv wr => Keep (fun q => q ≠ g) w wr ∧ Cur wr g ∧ Blk wr w.heap.size #[.int .i64 0, .int .i64 0, .slice none 0 0] 28 ∧ Blk wr w1.heap.size #[.int .i64 r, .int .i64 2, .slice (some ⟨p, 0, none⟩) (r * 2) (r * 2)] 28 ∧ ∃ (k : Nat) (xs : List Int), k ≤ r * 2 ∧ iv = .int .i64 k ∧ Own wr 3 1 (some ⟨p, 0, none⟩) (r * 2) (r * 2) (ints xs) ∧ (∀ x ∈ xs, I64 x)) (fun iv _ => r * 2 - (intOf iv).toNat)
 case atStart => exact ⟨hG3.any, hC3, bZ3, bM, 0, List.replicate (r * 2) 0, Nat.zero_le _, rfl, hO3, fun x hx => by obtain rfl := List.eq_of_mem_replicate hx; unfold I64; omega⟩
 case round =>
  clear hG3 hC3 bZ3 bM hO3
  obtain ⟨hKr, hC, bZr, bMr, k, xs, hk, rfl, hO, hx⟩ := hrel
  obtain ⟨⟨m0, m1, m2⟩, -⟩ := bMr.three
  have hltM := bMr.lt
  by_cases hlt2 : k < r * 2
  ·have hxl : xs.length = r * 2 := by simpa using hO.len
   have hng : g ≠ w1.heap.size := by omega
   have hCr := hC
   go_wp2
   have hpgr : p ≠ g := by omega
   have hngp : w1.heap.size ≠ p := by omega
   refine wp_region_segs (S := (Keep (fun q => q ≠ g ∧ q ≠ p) wr)) [([0, 1, 2, 3, 4, 5, 6, 8], some 7), ([9, 10], some 11)] P_mixed (by kernel_rfl) (fun _ _ _ _ _ h => h) (Keep.refl _ _).drew ?_
   show wpQuiet _ _ _ _ [_, _, _, _, _, _, _, _] _
   repeat (first | go_big_quiet_skip | (go_big_quiet_want; first | (apply quiet_load CT_ints; rfl; rfl; exact (fun w' hG => hG.cell ⟨hng.symm, hngp⟩ m2); go_big_quiet_on; simp only [Act.put, List.setIfInBounds_toArray, List.set_cons_succ, List.set_cons_zero]) | (go_big_quiet_op; first | go_big_quiet_on | (refine ⟨_, (fun _ _ => rfl), ?_⟩; go_big_quiet_on))))
   refine wpQuiet_nil ?_
   refine seg_go rfl (fun K hK => ?_)
   go_wp2_with fail
   refine (l1Below_c g 7 _ (hC.grow (Grow.refl _).drew) (by omega)).mono ?_
   rintro e w3 ⟨y, hy, rfl, hC3, hK3⟩
   have hKa : Keep (fun q => q ≠ g) wr w3 := ((Grow.refl wr).drew.any).trans hK3
   have hO3 := hO.keep hKa (fun q hq _ e => by simp at hq; omega)
   have bZ3 := bZr.keep hKa (by omega)
   have bM3 := bMr.keep hKa hng.symm
   obtain ⟨x, hxk⟩ : ∃ x, xs[k]? = some x := ⟨_, List.getElem?_eq_getElem (by omega)⟩
   have hce := hO3.cell (j := k) (c := .int .i64 x) (by unfold ints; rw [List.getElem?_map, hxk]; rfl)
   have hfr := hO3.free k
   simp only at hce hfr
   clear hC hK3 bZr bMr hO m0 m1 m2
   go_wp2_with fail
   refine hK _ _ ((hKa.mono fun q _ h => h.1)) ?_
   clear hK K
   show wpQuiet _ _ _ _ [_, _] _
   try (conv => arg 6; simp only [Act.put, List.setIfInBounds_toArray, List.set_cons_succ, List.set_cons_zero])
   repeat (first | go_big_quiet_skip | (go_big_quiet_want; first | (apply quiet_load CT_ints; rfl; rfl; exact (fun w' hG => hG.cell ⟨hng.symm, hngp⟩ m2); go_big_quiet_on; simp only [Act.put, List.setIfInBounds_toArray, List.set_cons_succ, List.set_cons_zero]) | (go_big_quiet_op; first | go_big_quiet_on | (refine ⟨_, (fun _ _ => rfl), ?_⟩; go_big_quiet_on))))
   refine wpQuiet_nil ?_
   refine seg_go rfl (fun K hK => ?_)
   go_wp2_with fail
   have hKb : Keep (fun q => q ≠ p) w3 (w3.setCell ⟨p, k, none⟩ (.int .i64 ((y : Int) - 3))) := (Keep.refl _ w3).setCell (fun _ e => e rfl) _
   refine hK _ _ (((hKa.mono fun q _ h => h.1).trans (hKb.mono fun q _ h => h.2))) ?_
   clear hK K
   refine wpSegs_nil ?_
   go_wp2
   go_roundw
   case rel => exact ⟨(hKr.trans hKa).setCell (fun e => absurd hpg.1 (by simp at e; omega)) _, hC3.keep hKb (fun q hq e => by omega), bZ3.keep hKb (by omega), bM3.keep hKb hngp, k + 1, xs.set k ((y : Int) - 3), by omega, by go_num, by have := hO3.set k (.int .i64 ((y : Int) - 3)); simpa [ints, List.map_set] using this, fun z hz => by rcases List.mem_or_eq_of_mem_set hz with h | rfl; exact hx z h; unfold I64; omega⟩
   case measure => simp [intOf]; omega
  ·obtain rfl : k = r * 2 := by omega
   obtain ⟨⟨z0, z1, z2⟩, f0, f1, f2⟩ := bZr.three
   have hltZ := bZr.lt
   go_wp2
   have hKs : Keep (fun q => q ≠ w.heap.size) wr (((wr.setCell ⟨w.heap.size, 0, none⟩ (.int .i64 r)).setCell ⟨w.heap.size, 1, none⟩ (.int .i64 2)).setCell ⟨w.heap.size, 2, none⟩ (.slice (some ⟨p, 0, none⟩) (r * 2) (r * 2))) :=
    (((Keep.refl _ wr).setCell (fun _ e => e rfl) _).setCell (fun _ e => e rfl) _).setCell (fun _ e => e rfl) _
   exact ret_cell T_mat rfl rfl rfl (((bZr.set 0 _).set 1 _).set 2 _) ⟨_, xs, rfl, hO.keep hKs (fun q hq _ e => by simp at hq; omega), hx, (fun q hq => by simp at hq; omega), hC.keep hKs (fun q hq e => by omega), ((hKr.setCell (fun e => absurd e (Nat.lt_irrefl _)) _).setCell (fun e => absurd e (Nat.lt_irrefl _)) _).setCell (fun e => absurd e (Nat.lt_irrefl _)) _⟩
theorem RdI.litF {w : World} {S : Nat → Prop} {g n : Nat} {cs : Array Value} {t : TypeId} {xs : List Int} (h : Blk w g cs t) (hc : cs.toList = ints xs) (hn : n = xs.length) (hm : xs.length ≤ 100) (hr : ∀ x ∈ xs, I64 x) (hS : S g) : RdI w S (some ⟨g, 0, none⟩) n n xs :=
 ⟨⟨by simp [hn], Nat.le_refl _, by unfold maxLen; omega, (fun h => by cases h), fun _ => ⟨g, 0, rfl, hS, fun j c hj => by rw [Nat.zero_add, h.cell, ← hj, ← hc, Array.getElem?_toList]⟩⟩, hr⟩
theorem pickInt_c {S : Nat → Prop} (g : Nat) (a : Option Addr) (n cap : Nat) (xs : List Int) (w : World) (h : Cur w g) (hr : RdI w S a n cap xs) (hS : ∀ q, S q → q ≠ g) (hn : 0 < n) (hn2 : n ≤ 256) :
  Calls Try.prog 32 #[.pointer (some ⟨g, 0, none⟩), .slice a n cap] w fun e w' => ∃ x, x ∈ xs ∧ e = .returned (.int .i64 x) ∧ Cur w' g ∧ Keep (fun q => q ≠ g) w w' := by
 go_enter Try.func32, Try.ntmps32
 go_wp2_with fail
 refine (l1Below_c g n _ h hn2).mono ?_
 rintro e w1 ⟨k, hk, rfl, hC, hK⟩
 have hr1 := hr.keep hK (fun q _ hb => hS q hb)
 obtain ⟨b, off, x, rfl, hx, hxr, _, hbw, hc⟩ := hr1.at (k := k) (by omega)
 go_wp2
 go_ret
 exact ⟨x, List.mem_of_getElem? hx, rfl, hC, hK⟩
abbrev zdefF : Array Value := #[.string ⟨#[]⟩, .int .i64 0, .string ⟨#[]⟩, .string ⟨#[]⟩, .int .i64 0, .int .i64 0, .slice none 0 0]
def DfSt (w0 w : World) (gd : Nat) : Prop := ∃ (nm : ByteArray) (op : Int) (A B : ByteArray) (r c : Int) (va : Option Addr) (vn vc : Nat) (xs : List Int), Blk w gd #[.string nm, .int .i64 op, .string A, .string B, .int .i64 r, .int .i64 c, .slice va vn vc] 30 ∧ Own w 3 1 va vn vc (ints xs) ∧ (∀ x ∈ xs, I64 x) ∧ (∀ q, blk va = some q → w0.heap.size < q ∧ q ≠ gd) ∧ nm.size ≤ 1 ∧ I64 op ∧ A.size ≤ 1 ∧ B.size ≤ 1 ∧ I64 r ∧ I64 c ∧ xs.length ≤ 4
theorem keep_new {S : Nat → Prop} {a w : World} (h : Keep S a w) {p : Addr} (hp : a.heap.size ≤ p.block) (u : Value) : Keep S a (w.setCell p u) := h.setCell (fun e => absurd e (by omega)) u
theorem l36Def_c (g : Nat) (w : World) (h : Cur w g) :
  Calls Try.prog 18 #[.pointer (some ⟨g, 0, none⟩)] w fun e w' => ∃ v d, e = .returned v ∧ OD w' (fun q => w.heap.size ≤ q) v d ∧ bdD d ≤ 10 ∧ Cur w' g ∧ Keep (fun q => q ≠ g) w w' := by
 have hlt := h.lt
 have hG1 := (Grow.refl w).alloc zdefF 30
 have bZ := Blk.new w zdefF 30
 go_enter Try.func18, Try.ntmps18
 go_wp2_with fail
 refine (l36Name_c g _ (h.grow hG1)).mono ?_
 rintro e w1 ⟨nm, hnm, rfl, hC1, hK1⟩
 go_wp2_with fail
 refine (l1Below_c g 10 _ hC1 (by omega)).mono ?_
 rintro e w2 ⟨op, hop, rfl, hC2, hK2⟩
 have hK12 := hK1.trans hK2
 have hKw2 := hG1.any.trans hK12
 have bZ2 := bZ.keep hK12 (by omega)
 have hltZ := bZ2.lt
 have hKw2' := hKw2
 have hltw : w.heap.size < w2.heap.size := hltZ
 clear hK12 hK1 hK2 hC1 hG1 bZ
 by_cases h0 : op = 0
 ·subst h0
  obtain ⟨w4, hw4⟩ : ∃ w4, w4 = w2.alloc (.cells #[.string nm, .int .i64 0, .string ⟨#[]⟩, .string ⟨#[]⟩, .int .i64 0, .int .i64 0, .slice none 0 0] 30) := ⟨_, rfl⟩
  obtain ⟨gd, hgde⟩ : ∃ gd, gd = w2.heap.size := ⟨_, rfl⟩
  have bD4 : Blk w4 gd #[.string nm, .int .i64 0, .string ⟨#[]⟩, .string ⟨#[]⟩, .int .i64 0, .int .i64 0, .slice none 0 0] 30 := by rw [hw4, hgde]; exact Blk.new _ _ _
  have hGd : Grow w2 w4 := by rw [hw4]; exact (Grow.refl w2).alloc _ _
  have bZ4 := bZ2.grow hGd
  have hC4 := hC2.grow hGd
  have hKt4 := hKw2.trans hGd.any
  have hgd : w.heap.size < gd := by omega
  have hgd4 := bD4.lt
  go_wp2_with fail
  rw [← hw4, ← hgde]
  clear hw4 hGd hgde bZ2 hC2 hKw2 hKw2' hltZ hltw
  refine (l1Below_c g 2 _ hC4 (by omega)).mono ?_
  rintro e w5 ⟨y, hy, rfl, hC5, hK5⟩
  go_wp2_with fail
  rw [show ((1 : Int) + (y : Int)) = ((1 + y : Nat) : Int) by omega]
  refine (l3Draw_c g (1 + y) _ hC5 (by omega)).mono ?_
  rintro e w6 ⟨va, xs, rfl, hO6, hx6, hlo6, hC6, hK6⟩
  have hK46 := hK5.trans hK6
  have bD6 := bD4.keep hK46 (by omega)
  have bZ6 := bZ4.keep hK46 (by omega)
  have hKt6 := hKt4.trans hK46
  have hs5 := hK5.size
  have hx7 : xs.length ≤ 4 := by have h : xs.length = (1 + y) * 2 := (by simpa using hO6.len); omega
  clear bD4 bZ4 hC4 hKt4 hC5
  obtain ⟨⟨d0, d1, d2, d3, d4, d5, d6⟩, df0⟩ := bD6.seven
  have df4 := bD6.free 4
  have df5 := bD6.free 5
  have df6 := bD6.free 6
  have hlt6 := bD6.lt
  have hlo7 : ∀ q, blk va = some q → gd < q := fun q hq => by have := hlo6 q hq; omega
  have hK7 : Keep (fun q => q ≠ gd) w6 (((w6.setCell ⟨gd, 4, none⟩ (.int .i64 ((1 + y : Nat) : Int))).setCell ⟨gd, 5, none⟩ (.int .i64 2)).setCell ⟨gd, 6, none⟩ (.slice va ((1 + y) * 2) ((1 + y) * 2))) :=
   (((Keep.refl _ w6).setCell (fun _ e => e rfl) _).setCell (fun _ e => e rfl) _).setCell (fun _ e => e rfl) _
  have bZ := bZ6.keep hK7 (by omega)
  have hC := hC6.keep hK7 (fun q hq e => by omega)
  have hKt := keep_new (keep_new (keep_new hKt6 (p := ⟨gd, 4, none⟩) (Nat.le_of_lt hgd) (.int .i64 ((1 + y : Nat) : Int))) (p := ⟨gd, 5, none⟩) (Nat.le_of_lt hgd) (.int .i64 2)) (p := ⟨gd, 6, none⟩) (Nat.le_of_lt hgd) (.slice va ((1 + y) * 2) ((1 + y) * 2))
  have HT : DfSt w (((w6.setCell ⟨gd, 4, none⟩ (.int .i64 ((1 + y : Nat) : Int))).setCell ⟨gd, 5, none⟩ (.int .i64 2)).setCell ⟨gd, 6, none⟩ (.slice va ((1 + y) * 2) ((1 + y) * 2))) gd :=
   ⟨_, _, _, _, _, _, _, _, _, xs, ((bD6.set 4 _).set 5 _).set 6 _, hO6.keep hK7 (fun q hq _ e => by have := hlo7 q hq; omega), hx6, (fun q hq => by have := hlo7 q hq; omega), hnm, by unfold I64; omega, by decide, by decide, by unfold I64; omega, by unfold I64; omega, hx7⟩
  obtain ⟨nm, op, A, B, r, c, va, vn, vc, xs, bD, hO, hx, hv, h1, h2, h3, h4, h5, h6, h7⟩ := HT
  go_wp2_with fail
  refine (l1Once_c g 24 _ hC (by omega)).mono ?_
  rintro e wu ⟨b, rfl, hCu, hKu⟩
  have bDu := bD.keep hKu (by omega)
  have bZu := bZ.keep hKu (by omega)
  have hOu := hO.keep hKu (fun q hq _ e => by have := hv q hq; omega)
  have hKt2 := hKt.trans hKu
  clear bD bZ hO hC hKt hKu
  cases b with
  | false =>
   obtain ⟨⟨d0, d1, d2, d3, d4, d5, d6⟩, df0⟩ := bDu.seven
   obtain ⟨⟨z0, z1, z2, z3, z4, z5, z6⟩, zf0⟩ := bZu.seven
   have zf1 := bZu.free 1
   have zf2 := bZu.free 2
   have zf3 := bZu.free 3
   have zf4 := bZu.free 4
   have zf5 := bZu.free 5
   have zf6 := bZu.free 6
   have hltD := bDu.lt
   have hltZ := bZu.lt
   go_wp2
   have hKs : Keep (fun q => q ≠ w.heap.size) wu (((((((wu.setCell ⟨w.heap.size, 0, none⟩ (.string nm)).setCell ⟨w.heap.size, 1, none⟩ (.int .i64 op)).setCell ⟨w.heap.size, 2, none⟩ (.string A)).setCell ⟨w.heap.size, 3, none⟩ (.string B)).setCell ⟨w.heap.size, 4, none⟩ (.int .i64 r)).setCell ⟨w.heap.size, 5, none⟩ (.int .i64 c)).setCell ⟨w.heap.size, 6, none⟩ (.slice va vn vc)) :=
    (((((((Keep.refl _ wu).setCell (fun _ e => e rfl) _).setCell (fun _ e => e rfl) _).setCell (fun _ e => e rfl) _).setCell (fun _ e => e rfl) _).setCell (fun _ e => e rfl) _).setCell (fun _ e => e rfl) _).setCell (fun _ e => e rfl) _
   exact ret_cell T_def rfl rfl rfl (((((((bZu.set 0 _).set 1 _).set 2 _).set 3 _).set 4 _).set 5 _).set 6 _) ⟨_, ⟨nm, op, A, B, ⟨r, c, xs⟩⟩, rfl, ⟨va, vn, vc, rfl, hOu.keep hKs (fun q hq _ e => by have := hv q hq; omega), hx, (fun q hq => Nat.le_of_lt (hv q hq).1), ⟨by show nm.size ≤ maxLen; unfold maxLen; omega, h2, by show A.size ≤ maxLen; unfold maxLen; omega, by show B.size ≤ maxLen; unfold maxLen; omega, h5, h6⟩⟩, by unfold bdD; simp only; omega, hCu.keep hKs (fun q hq e => by omega), keep_new (keep_new (keep_new (keep_new (keep_new (keep_new (keep_new hKt2 (Nat.le_refl _) _) (Nat.le_refl _) _) (Nat.le_refl _) _) (Nat.le_refl _) _) (Nat.le_refl _) _) (Nat.le_refl _) _) (Nat.le_refl _) _⟩
  | true =>
   have hgu := hCu.lt
   have hRp : RdI (wu.alloc (.cells #[.int .i64 (-1), .int .i64 10, .int .i64 0] 3)) (fun q => q = wu.heap.size) (some ⟨wu.heap.size, 0, none⟩) 3 3 [-1, 10, 0] := RdI.litF (Blk.new _ _ _) rfl rfl (by simp) (by intro z hz; simp at hz; unfold I64; omega) rfl
   have hGa := (Grow.refl wu).alloc #[.int .i64 (-1), .int .i64 10, .int .i64 0] 3
   go_wp2_with fail
   refine (pickInt_c g _ _ _ _ _ (hCu.grow hGa) hRp (fun q hq => by omega) (by omega) (by omega)).mono ?_
   rintro e wv ⟨y, hy, rfl, hCv, hKv⟩
   have hy2 : I64 y := by simp at hy; unfold I64; omega
   have hKa := hGa.any.trans hKv
   have bDv := bDu.keep hKa (by omega)
   have bZv := bZu.keep hKa (by omega)
   have hOv := hOu.keep hKa (fun q hq _ e => by have := hv q hq; omega)
   have hKt3 := hKt2.trans hKa
   clear bDu bZu hOu hCu hKt2 hKa hGa hRp hKv hy
   obtain ⟨⟨d0, d1, d2, d3, d4, d5, d6⟩, df0⟩ := bDv.seven
   have df1 := bDv.free 1
   obtain ⟨⟨z0, z1, z2, z3, z4, z5, z6⟩, zf0⟩ := bZv.seven
   have zf1 := bZv.free 1
   have zf2 := bZv.free 2
   have zf3 := bZv.free 3
   have zf4 := bZv.free 4
   have zf5 := bZv.free 5
   have zf6 := bZv.free 6
   have hltD := bDv.lt
   have hltZ := bZv.lt
   go_wp2
   have hKs : Keep (fun q => q ≠ w.heap.size ∧ q ≠ gd) wv ((((((((wv.setCell ⟨gd, 1, none⟩ (.int .i64 y)).setCell ⟨w.heap.size, 0, none⟩ (.string nm)).setCell ⟨w.heap.size, 1, none⟩ (.int .i64 y)).setCell ⟨w.heap.size, 2, none⟩ (.string A)).setCell ⟨w.heap.size, 3, none⟩ (.string B)).setCell ⟨w.heap.size, 4, none⟩ (.int .i64 r)).setCell ⟨w.heap.size, 5, none⟩ (.int .i64 c)).setCell ⟨w.heap.size, 6, none⟩ (.slice va vn vc)) :=
    ((((((((Keep.refl _ wv).setCell (fun _ e => e.2 rfl) _).setCell (fun _ e => e.1 rfl) _).setCell (fun _ e => e.1 rfl) _).setCell (fun _ e => e.1 rfl) _).setCell (fun _ e => e.1 rfl) _).setCell (fun _ e => e.1 rfl) _).setCell (fun _ e => e.1 rfl) _).setCell (fun _ e => e.1 rfl) _
   exact ret_cell T_def rfl rfl rfl ((((((((bZv.other (p := ⟨gd, 1, none⟩) (by simp; omega) _).set 0 _).set 1 _).set 2 _).set 3 _).set 4 _).set 5 _).set 6 _) ⟨_, ⟨nm, y, A, B, ⟨r, c, xs⟩⟩, rfl, ⟨va, vn, vc, rfl, hOv.keep hKs (fun q hq _ => by have := hv q hq; omega), hx, (fun q hq => Nat.le_of_lt (hv q hq).1), ⟨by show nm.size ≤ maxLen; unfold maxLen; omega, hy2, by show A.size ≤ maxLen; unfold maxLen; omega, by show B.size ≤ maxLen; unfold maxLen; omega, h5, h6⟩⟩, by unfold bdD; simp only; omega, hCv.keep hKs (fun q hq => by omega), keep_new (keep_new (keep_new (keep_new (keep_new (keep_new (keep_new (keep_new hKt3 (Nat.le_of_lt hgd) _) (Nat.le_refl _) _) (Nat.le_refl _) _) (Nat.le_refl _) _) (Nat.le_refl _) _) (Nat.le_refl _) _) (Nat.le_refl _) _) (Nat.le_refl _) _⟩
 ·obtain ⟨w3, hw3⟩ : ∃ w3, w3 = w2.alloc (.cells #[.string nm, .int .i64 op, .string ⟨#[]⟩, .string ⟨#[]⟩, .int .i64 0, .int .i64 0, .slice none 0 0] 30) := ⟨_, rfl⟩
  obtain ⟨gd, hgde⟩ : ∃ gd, gd = w2.heap.size := ⟨_, rfl⟩
  have bD3 : Blk w3 gd #[.string nm, .int .i64 op, .string ⟨#[]⟩, .string ⟨#[]⟩, .int .i64 0, .int .i64 0, .slice none 0 0] 30 := by rw [hw3, hgde]; exact Blk.new _ _ _
  have hGd : Grow w2 w3 := by rw [hw3]; exact (Grow.refl w2).alloc _ _
  have bZ3 := bZ2.grow hGd
  have hC3 := hC2.grow hGd
  have hKt3 := hKw2.trans hGd.any
  have hgd : w.heap.size < gd := by omega
  go_wp2_with fail
  rw [← hw3, ← hgde]
  clear hw3 hGd hgde bZ2 hC2 hKw2 hKw2' hltZ hltw
  refine (l1Once_c g 3 _ hC3 (by omega)).mono ?_
  rintro e wu ⟨b, rfl, hCu, hKu⟩
  have bDu := bD3.keep hKu (by omega)
  have bZu := bZ3.keep hKu (by omega)
  have hKtu := hKt3.trans hKu
  clear bD3 bZ3 hC3 hKt3 hKu
  have hgdu := bDu.lt
  obtain ⟨⟨d0, d1, d2, d3, d4, d5, d6⟩, df0⟩ := bDu.seven
  have df1 := bDu.free 1
  cases b with
  | true =>
   have hK4 : Keep (fun q => q ≠ gd) wu (wu.setCell ⟨gd, 1, none⟩ (.int .i64 0)) := (Keep.refl _ wu).setCell (fun _ e => e rfl) _
   go_wp2_with fail
   have bD4 := bDu.set 1 (.int .i64 0)
   have bZ4 := bZu.keep hK4 (by omega)
   have hC4 := hCu.keep hK4 (fun q hq e => by omega)
   have hKt4 := keep_new hKtu (p := ⟨gd, 1, none⟩) (Nat.le_of_lt hgd) (.int .i64 0)
   generalize wu.setCell ⟨gd, 1, none⟩ (.int .i64 0) = w4 at *
   clear d0 d1 d2 d3 d4 d5 d6 df0 df1 hK4 hCu bDu bZu hKtu
   have hgd4 := bD4.lt
   refine (l1Below_c g 2 _ hC4 (by omega)).mono ?_
   rintro e w5 ⟨y, hy, rfl, hC5, hK5⟩
   go_wp2_with fail
   rw [show ((1 : Int) + (y : Int)) = ((1 + y : Nat) : Int) by omega]
   refine (l3Draw_c g (1 + y) _ hC5 (by omega)).mono ?_
   rintro e w6 ⟨va, xs, rfl, hO6, hx6, hlo6, hC6, hK6⟩
   have hK46 := hK5.trans hK6
   have bD6 := bD4.keep hK46 (by omega)
   have bZ6 := bZ4.keep hK46 (by omega)
   have hKt6 := hKt4.trans hK46
   have hs5 := hK5.size
   have hx7 : xs.length ≤ 4 := by have h : xs.length = (1 + y) * 2 := (by simpa using hO6.len); omega
   clear bD4 bZ4 hC4 hKt4 hC5
   obtain ⟨⟨d0, d1, d2, d3, d4, d5, d6⟩, df0⟩ := bD6.seven
   have df4 := bD6.free 4
   have df5 := bD6.free 5
   have df6 := bD6.free 6
   have hlt6 := bD6.lt
   have hlo7 : ∀ q, blk va = some q → gd < q := fun q hq => by have := hlo6 q hq; omega
   have hK7 : Keep (fun q => q ≠ gd) w6 (((w6.setCell ⟨gd, 4, none⟩ (.int .i64 ((1 + y : Nat) : Int))).setCell ⟨gd, 5, none⟩ (.int .i64 2)).setCell ⟨gd, 6, none⟩ (.slice va ((1 + y) * 2) ((1 + y) * 2))) :=
    (((Keep.refl _ w6).setCell (fun _ e => e rfl) _).setCell (fun _ e => e rfl) _).setCell (fun _ e => e rfl) _
   have bZ := bZ6.keep hK7 (by omega)
   have hC := hC6.keep hK7 (fun q hq e => by omega)
   have hKt := keep_new (keep_new (keep_new hKt6 (p := ⟨gd, 4, none⟩) (Nat.le_of_lt hgd) (.int .i64 ((1 + y : Nat) : Int))) (p := ⟨gd, 5, none⟩) (Nat.le_of_lt hgd) (.int .i64 2)) (p := ⟨gd, 6, none⟩) (Nat.le_of_lt hgd) (.slice va ((1 + y) * 2) ((1 + y) * 2))
   have HT : DfSt w (((w6.setCell ⟨gd, 4, none⟩ (.int .i64 ((1 + y : Nat) : Int))).setCell ⟨gd, 5, none⟩ (.int .i64 2)).setCell ⟨gd, 6, none⟩ (.slice va ((1 + y) * 2) ((1 + y) * 2))) gd :=
    ⟨_, _, _, _, _, _, _, _, _, xs, ((bD6.set 4 _).set 5 _).set 6 _, hO6.keep hK7 (fun q hq _ e => by have := hlo7 q hq; omega), hx6, (fun q hq => by have := hlo7 q hq; omega), hnm, by unfold I64; omega, by decide, by decide, by unfold I64; omega, by unfold I64; omega, hx7⟩
   obtain ⟨nm, op, A, B, r, c, va, vn, vc, xs, bD, hO, hx, hv, h1, h2, h3, h4, h5, h6, h7⟩ := HT
   go_wp2_with fail
   refine (l1Once_c g 24 _ hC (by omega)).mono ?_
   rintro e wu ⟨b, rfl, hCu, hKu⟩
   have bDu := bD.keep hKu (by omega)
   have bZu := bZ.keep hKu (by omega)
   have hOu := hO.keep hKu (fun q hq _ e => by have := hv q hq; omega)
   have hKt2 := hKt.trans hKu
   clear bD bZ hO hC hKt hKu
   cases b with
   | false =>
    obtain ⟨⟨d0, d1, d2, d3, d4, d5, d6⟩, df0⟩ := bDu.seven
    obtain ⟨⟨z0, z1, z2, z3, z4, z5, z6⟩, zf0⟩ := bZu.seven
    have zf1 := bZu.free 1
    have zf2 := bZu.free 2
    have zf3 := bZu.free 3
    have zf4 := bZu.free 4
    have zf5 := bZu.free 5
    have zf6 := bZu.free 6
    have hltD := bDu.lt
    have hltZ := bZu.lt
    go_wp2
    have hKs : Keep (fun q => q ≠ w.heap.size) wu (((((((wu.setCell ⟨w.heap.size, 0, none⟩ (.string nm)).setCell ⟨w.heap.size, 1, none⟩ (.int .i64 op)).setCell ⟨w.heap.size, 2, none⟩ (.string A)).setCell ⟨w.heap.size, 3, none⟩ (.string B)).setCell ⟨w.heap.size, 4, none⟩ (.int .i64 r)).setCell ⟨w.heap.size, 5, none⟩ (.int .i64 c)).setCell ⟨w.heap.size, 6, none⟩ (.slice va vn vc)) :=
     (((((((Keep.refl _ wu).setCell (fun _ e => e rfl) _).setCell (fun _ e => e rfl) _).setCell (fun _ e => e rfl) _).setCell (fun _ e => e rfl) _).setCell (fun _ e => e rfl) _).setCell (fun _ e => e rfl) _).setCell (fun _ e => e rfl) _
    exact ret_cell T_def rfl rfl rfl (((((((bZu.set 0 _).set 1 _).set 2 _).set 3 _).set 4 _).set 5 _).set 6 _) ⟨_, ⟨nm, op, A, B, ⟨r, c, xs⟩⟩, rfl, ⟨va, vn, vc, rfl, hOu.keep hKs (fun q hq _ e => by have := hv q hq; omega), hx, (fun q hq => Nat.le_of_lt (hv q hq).1), ⟨by show nm.size ≤ maxLen; unfold maxLen; omega, h2, by show A.size ≤ maxLen; unfold maxLen; omega, by show B.size ≤ maxLen; unfold maxLen; omega, h5, h6⟩⟩, by unfold bdD; simp only; omega, hCu.keep hKs (fun q hq e => by omega), keep_new (keep_new (keep_new (keep_new (keep_new (keep_new (keep_new hKt2 (Nat.le_refl _) _) (Nat.le_refl _) _) (Nat.le_refl _) _) (Nat.le_refl _) _) (Nat.le_refl _) _) (Nat.le_refl _) _) (Nat.le_refl _) _⟩
   | true =>
    have hgu := hCu.lt
    have hRp : RdI (wu.alloc (.cells #[.int .i64 (-1), .int .i64 10, .int .i64 0] 3)) (fun q => q = wu.heap.size) (some ⟨wu.heap.size, 0, none⟩) 3 3 [-1, 10, 0] := RdI.litF (Blk.new _ _ _) rfl rfl (by simp) (by intro z hz; simp at hz; unfold I64; omega) rfl
    have hGa := (Grow.refl wu).alloc #[.int .i64 (-1), .int .i64 10, .int .i64 0] 3
    go_wp2_with fail
    refine (pickInt_c g _ _ _ _ _ (hCu.grow hGa) hRp (fun q hq => by omega) (by omega) (by omega)).mono ?_
    rintro e wv ⟨y, hy, rfl, hCv, hKv⟩
    have hy2 : I64 y := by simp at hy; unfold I64; omega
    have hKa := hGa.any.trans hKv
    have bDv := bDu.keep hKa (by omega)
    have bZv := bZu.keep hKa (by omega)
    have hOv := hOu.keep hKa (fun q hq _ e => by have := hv q hq; omega)
    have hKt3 := hKt2.trans hKa
    clear bDu bZu hOu hCu hKt2 hKa hGa hRp hKv hy
    obtain ⟨⟨d0, d1, d2, d3, d4, d5, d6⟩, df0⟩ := bDv.seven
    have df1 := bDv.free 1
    obtain ⟨⟨z0, z1, z2, z3, z4, z5, z6⟩, zf0⟩ := bZv.seven
    have zf1 := bZv.free 1
    have zf2 := bZv.free 2
    have zf3 := bZv.free 3
    have zf4 := bZv.free 4
    have zf5 := bZv.free 5
    have zf6 := bZv.free 6
    have hltD := bDv.lt
    have hltZ := bZv.lt
    go_wp2
    have hKs : Keep (fun q => q ≠ w.heap.size ∧ q ≠ gd) wv ((((((((wv.setCell ⟨gd, 1, none⟩ (.int .i64 y)).setCell ⟨w.heap.size, 0, none⟩ (.string nm)).setCell ⟨w.heap.size, 1, none⟩ (.int .i64 y)).setCell ⟨w.heap.size, 2, none⟩ (.string A)).setCell ⟨w.heap.size, 3, none⟩ (.string B)).setCell ⟨w.heap.size, 4, none⟩ (.int .i64 r)).setCell ⟨w.heap.size, 5, none⟩ (.int .i64 c)).setCell ⟨w.heap.size, 6, none⟩ (.slice va vn vc)) :=
     ((((((((Keep.refl _ wv).setCell (fun _ e => e.2 rfl) _).setCell (fun _ e => e.1 rfl) _).setCell (fun _ e => e.1 rfl) _).setCell (fun _ e => e.1 rfl) _).setCell (fun _ e => e.1 rfl) _).setCell (fun _ e => e.1 rfl) _).setCell (fun _ e => e.1 rfl) _).setCell (fun _ e => e.1 rfl) _
    exact ret_cell T_def rfl rfl rfl ((((((((bZv.other (p := ⟨gd, 1, none⟩) (by simp; omega) _).set 0 _).set 1 _).set 2 _).set 3 _).set 4 _).set 5 _).set 6 _) ⟨_, ⟨nm, y, A, B, ⟨r, c, xs⟩⟩, rfl, ⟨va, vn, vc, rfl, hOv.keep hKs (fun q hq _ => by have := hv q hq; omega), hx, (fun q hq => Nat.le_of_lt (hv q hq).1), ⟨by show nm.size ≤ maxLen; unfold maxLen; omega, hy2, by show A.size ≤ maxLen; unfold maxLen; omega, by show B.size ≤ maxLen; unfold maxLen; omega, h5, h6⟩⟩, by unfold bdD; simp only; omega, hCv.keep hKs (fun q hq => by omega), keep_new (keep_new (keep_new (keep_new (keep_new (keep_new (keep_new (keep_new hKt3 (Nat.le_of_lt hgd) _) (Nat.le_refl _) _) (Nat.le_refl _) _) (Nat.le_refl _) _) (Nat.le_refl _) _) (Nat.le_refl _) _) (Nat.le_refl _) _) (Nat.le_refl _) _⟩
  | false =>
   by_cases h2 : op ≤ 2
   ·go_wp2_with fail
    refine (l36Name_c g _ hCu).mono ?_
    rintro e w5 ⟨A, hA, rfl, hC5, hK5⟩
    have bD5 := bDu.keep hK5 (by omega)
    have bZ5 := bZu.keep hK5 (by omega)
    have hKt5 := hKtu.trans hK5
    clear d0 d1 d2 d3 d4 d5 d6 df0 df1 bDu bZu hKtu hCu hK5
    obtain ⟨⟨d0, d1, d2, d3, d4, d5, d6⟩, df0⟩ := bD5.seven
    have df2 := bD5.free 2
    have hlt5 := bD5.lt
    have hK6 : Keep (fun q => q ≠ gd) w5 (w5.setCell ⟨gd, 2, none⟩ (.string A)) := (Keep.refl _ w5).setCell (fun _ e => e rfl) _
    have bD6 := bD5.set 2 (.string A)
    have bZ6 := bZ5.keep hK6 (by omega)
    have hC6 := hC5.keep hK6 (fun q hq e => by omega)
    have hKt6 := keep_new hKt5 (p := ⟨gd, 2, none⟩) (Nat.le_of_lt hgd) (.string A)
    go_wp2_with fail
    generalize w5.setCell ⟨gd, 2, none⟩ (.string A) = w6 at *
    clear d0 d1 d2 d3 d4 d5 d6 df0 df2 hK6 bD5 bZ5 hC5 hKt5
    refine (l36Name_c g _ hC6).mono ?_
    rintro e w7 ⟨B, hB, rfl, hC7, hK7⟩
    have bD7 := bD6.keep hK7 (by omega)
    have bZ7 := bZ6.keep hK7 (by omega)
    have hKt7 := hKt6.trans hK7
    clear bD6 bZ6 hKt6 hC6 hK7
    obtain ⟨⟨d0, d1, d2, d3, d4, d5, d6⟩, df0⟩ := bD7.seven
    have df3 := bD7.free 3
    have hlt7 := bD7.lt
    have hK8 : Keep (fun q => q ≠ gd) w7 (w7.setCell ⟨gd, 3, none⟩ (.string B)) := (Keep.refl _ w7).setCell (fun _ e => e rfl) _
    have bD8 := bD7.set 3 (.string B)
    have bZ := bZ7.keep hK8 (by omega)
    have hC := hC7.keep hK8 (fun q hq e => by omega)
    have hKt := keep_new hKt7 (p := ⟨gd, 3, none⟩) (Nat.le_of_lt hgd) (.string B)
    have HT : DfSt w (w7.setCell ⟨gd, 3, none⟩ (.string B)) gd :=
     ⟨_, _, _, _, _, _, none, 0, 0, [], bD8, Own.nilw, (fun x hx => by simp at hx), (fun q hq => by cases hq), hnm, by unfold I64; omega, hA, hB, by unfold I64; omega, by unfold I64; omega, by simp⟩
    obtain ⟨nm, op, A, B, r, c, va, vn, vc, xs, bD, hO, hx, hv, h1, h2, h3, h4, h5, h6, h7⟩ := HT
    go_wp2_with fail
    refine (l1Once_c g 24 _ hC (by omega)).mono ?_
    rintro e wu ⟨b, rfl, hCu, hKu⟩
    have bDu := bD.keep hKu (by omega)
    have bZu := bZ.keep hKu (by omega)
    have hOu := hO.keep hKu (fun q hq _ e => by have := hv q hq; omega)
    have hKt2 := hKt.trans hKu
    clear bD bZ hO hC hKt hKu
    cases b with
    | false =>
     obtain ⟨⟨d0, d1, d2, d3, d4, d5, d6⟩, df0⟩ := bDu.seven
     obtain ⟨⟨z0, z1, z2, z3, z4, z5, z6⟩, zf0⟩ := bZu.seven
     have zf1 := bZu.free 1
     have zf2 := bZu.free 2
     have zf3 := bZu.free 3
     have zf4 := bZu.free 4
     have zf5 := bZu.free 5
     have zf6 := bZu.free 6
     have hltD := bDu.lt
     have hltZ := bZu.lt
     go_wp2
     have hKs : Keep (fun q => q ≠ w.heap.size) wu (((((((wu.setCell ⟨w.heap.size, 0, none⟩ (.string nm)).setCell ⟨w.heap.size, 1, none⟩ (.int .i64 op)).setCell ⟨w.heap.size, 2, none⟩ (.string A)).setCell ⟨w.heap.size, 3, none⟩ (.string B)).setCell ⟨w.heap.size, 4, none⟩ (.int .i64 r)).setCell ⟨w.heap.size, 5, none⟩ (.int .i64 c)).setCell ⟨w.heap.size, 6, none⟩ (.slice va vn vc)) :=
      (((((((Keep.refl _ wu).setCell (fun _ e => e rfl) _).setCell (fun _ e => e rfl) _).setCell (fun _ e => e rfl) _).setCell (fun _ e => e rfl) _).setCell (fun _ e => e rfl) _).setCell (fun _ e => e rfl) _).setCell (fun _ e => e rfl) _
     exact ret_cell T_def rfl rfl rfl (((((((bZu.set 0 _).set 1 _).set 2 _).set 3 _).set 4 _).set 5 _).set 6 _) ⟨_, ⟨nm, op, A, B, ⟨r, c, xs⟩⟩, rfl, ⟨va, vn, vc, rfl, hOu.keep hKs (fun q hq _ e => by have := hv q hq; omega), hx, (fun q hq => Nat.le_of_lt (hv q hq).1), ⟨by show nm.size ≤ maxLen; unfold maxLen; omega, h2, by show A.size ≤ maxLen; unfold maxLen; omega, by show B.size ≤ maxLen; unfold maxLen; omega, h5, h6⟩⟩, by unfold bdD; simp only; omega, hCu.keep hKs (fun q hq e => by omega), keep_new (keep_new (keep_new (keep_new (keep_new (keep_new (keep_new hKt2 (Nat.le_refl _) _) (Nat.le_refl _) _) (Nat.le_refl _) _) (Nat.le_refl _) _) (Nat.le_refl _) _) (Nat.le_refl _) _) (Nat.le_refl _) _⟩
    | true =>
     have hgu := hCu.lt
     have hRp : RdI (wu.alloc (.cells #[.int .i64 (-1), .int .i64 10, .int .i64 0] 3)) (fun q => q = wu.heap.size) (some ⟨wu.heap.size, 0, none⟩) 3 3 [-1, 10, 0] := RdI.litF (Blk.new _ _ _) rfl rfl (by simp) (by intro z hz; simp at hz; unfold I64; omega) rfl
     have hGa := (Grow.refl wu).alloc #[.int .i64 (-1), .int .i64 10, .int .i64 0] 3
     go_wp2_with fail
     refine (pickInt_c g _ _ _ _ _ (hCu.grow hGa) hRp (fun q hq => by omega) (by omega) (by omega)).mono ?_
     rintro e wv ⟨y, hy, rfl, hCv, hKv⟩
     have hy2 : I64 y := by simp at hy; unfold I64; omega
     have hKa := hGa.any.trans hKv
     have bDv := bDu.keep hKa (by omega)
     have bZv := bZu.keep hKa (by omega)
     have hOv := hOu.keep hKa (fun q hq _ e => by have := hv q hq; omega)
     have hKt3 := hKt2.trans hKa
     clear bDu bZu hOu hCu hKt2 hKa hGa hRp hKv hy
     obtain ⟨⟨d0, d1, d2, d3, d4, d5, d6⟩, df0⟩ := bDv.seven
     have df1 := bDv.free 1
     obtain ⟨⟨z0, z1, z2, z3, z4, z5, z6⟩, zf0⟩ := bZv.seven
     have zf1 := bZv.free 1
     have zf2 := bZv.free 2
     have zf3 := bZv.free 3
     have zf4 := bZv.free 4
     have zf5 := bZv.free 5
     have zf6 := bZv.free 6
     have hltD := bDv.lt
     have hltZ := bZv.lt
     go_wp2
     have hKs : Keep (fun q => q ≠ w.heap.size ∧ q ≠ gd) wv ((((((((wv.setCell ⟨gd, 1, none⟩ (.int .i64 y)).setCell ⟨w.heap.size, 0, none⟩ (.string nm)).setCell ⟨w.heap.size, 1, none⟩ (.int .i64 y)).setCell ⟨w.heap.size, 2, none⟩ (.string A)).setCell ⟨w.heap.size, 3, none⟩ (.string B)).setCell ⟨w.heap.size, 4, none⟩ (.int .i64 r)).setCell ⟨w.heap.size, 5, none⟩ (.int .i64 c)).setCell ⟨w.heap.size, 6, none⟩ (.slice va vn vc)) :=
      ((((((((Keep.refl _ wv).setCell (fun _ e => e.2 rfl) _).setCell (fun _ e => e.1 rfl) _).setCell (fun _ e => e.1 rfl) _).setCell (fun _ e => e.1 rfl) _).setCell (fun _ e => e.1 rfl) _).setCell (fun _ e => e.1 rfl) _).setCell (fun _ e => e.1 rfl) _).setCell (fun _ e => e.1 rfl) _
     exact ret_cell T_def rfl rfl rfl ((((((((bZv.other (p := ⟨gd, 1, none⟩) (by simp; omega) _).set 0 _).set 1 _).set 2 _).set 3 _).set 4 _).set 5 _).set 6 _) ⟨_, ⟨nm, y, A, B, ⟨r, c, xs⟩⟩, rfl, ⟨va, vn, vc, rfl, hOv.keep hKs (fun q hq _ => by have := hv q hq; omega), hx, (fun q hq => Nat.le_of_lt (hv q hq).1), ⟨by show nm.size ≤ maxLen; unfold maxLen; omega, hy2, by show A.size ≤ maxLen; unfold maxLen; omega, by show B.size ≤ maxLen; unfold maxLen; omega, h5, h6⟩⟩, by unfold bdD; simp only; omega, hCv.keep hKs (fun q hq => by omega), keep_new (keep_new (keep_new (keep_new (keep_new (keep_new (keep_new (keep_new hKt3 (Nat.le_of_lt hgd) _) (Nat.le_refl _) _) (Nat.le_refl _) _) (Nat.le_refl _) _) (Nat.le_refl _) _) (Nat.le_refl _) _) (Nat.le_refl _) _) (Nat.le_refl _) _⟩
   ·go_wp2_with fail
    refine (l36Name_c g _ hCu).mono ?_
    rintro e w5 ⟨A, hA, rfl, hC5, hK5⟩
    have bD5 := bDu.keep hK5 (by omega)
    have bZ5 := bZu.keep hK5 (by omega)
    have hKt5 := hKtu.trans hK5
    clear d0 d1 d2 d3 d4 d5 d6 df0 df1 bDu bZu hKtu hCu hK5
    obtain ⟨⟨d0, d1, d2, d3, d4, d5, d6⟩, df0⟩ := bD5.seven
    have df2 := bD5.free 2
    have hlt5 := bD5.lt
    have hK6 : Keep (fun q => q ≠ gd) w5 (w5.setCell ⟨gd, 2, none⟩ (.string A)) := (Keep.refl _ w5).setCell (fun _ e => e rfl) _
    have bD6 := bD5.set 2 (.string A)
    have bZ := bZ5.keep hK6 (by omega)
    have hC := hC5.keep hK6 (fun q hq e => by omega)
    have hKt := keep_new hKt5 (p := ⟨gd, 2, none⟩) (Nat.le_of_lt hgd) (.string A)
    have HT : DfSt w (w5.setCell ⟨gd, 2, none⟩ (.string A)) gd :=
     ⟨_, _, _, _, _, _, none, 0, 0, [], bD6, Own.nilw, (fun x hx => by simp at hx), (fun q hq => by cases hq), hnm, by unfold I64; omega, hA, by decide, by unfold I64; omega, by unfold I64; omega, by simp⟩
    obtain ⟨nm, op, A, B, r, c, va, vn, vc, xs, bD, hO, hx, hv, h1, h2, h3, h4, h5, h6, h7⟩ := HT
    go_wp2_with fail
    refine (l1Once_c g 24 _ hC (by omega)).mono ?_
    rintro e wu ⟨b, rfl, hCu, hKu⟩
    have bDu := bD.keep hKu (by omega)
    have bZu := bZ.keep hKu (by omega)
    have hOu := hO.keep hKu (fun q hq _ e => by have := hv q hq; omega)
    have hKt2 := hKt.trans hKu
    clear bD bZ hO hC hKt hKu
    cases b with
    | false =>
     obtain ⟨⟨d0, d1, d2, d3, d4, d5, d6⟩, df0⟩ := bDu.seven
     obtain ⟨⟨z0, z1, z2, z3, z4, z5, z6⟩, zf0⟩ := bZu.seven
     have zf1 := bZu.free 1
     have zf2 := bZu.free 2
     have zf3 := bZu.free 3
     have zf4 := bZu.free 4
     have zf5 := bZu.free 5
     have zf6 := bZu.free 6
     have hltD := bDu.lt
     have hltZ := bZu.lt
     go_wp2
     have hKs : Keep (fun q => q ≠ w.heap.size) wu (((((((wu.setCell ⟨w.heap.size, 0, none⟩ (.string nm)).setCell ⟨w.heap.size, 1, none⟩ (.int .i64 op)).setCell ⟨w.heap.size, 2, none⟩ (.string A)).setCell ⟨w.heap.size, 3, none⟩ (.string B)).setCell ⟨w.heap.size, 4, none⟩ (.int .i64 r)).setCell ⟨w.heap.size, 5, none⟩ (.int .i64 c)).setCell ⟨w.heap.size, 6, none⟩ (.slice va vn vc)) :=
      (((((((Keep.refl _ wu).setCell (fun _ e => e rfl) _).setCell (fun _ e => e rfl) _).setCell (fun _ e => e rfl) _).setCell (fun _ e => e rfl) _).setCell (fun _ e => e rfl) _).setCell (fun _ e => e rfl) _).setCell (fun _ e => e rfl) _
     exact ret_cell T_def rfl rfl rfl (((((((bZu.set 0 _).set 1 _).set 2 _).set 3 _).set 4 _).set 5 _).set 6 _) ⟨_, ⟨nm, op, A, B, ⟨r, c, xs⟩⟩, rfl, ⟨va, vn, vc, rfl, hOu.keep hKs (fun q hq _ e => by have := hv q hq; omega), hx, (fun q hq => Nat.le_of_lt (hv q hq).1), ⟨by show nm.size ≤ maxLen; unfold maxLen; omega, h2, by show A.size ≤ maxLen; unfold maxLen; omega, by show B.size ≤ maxLen; unfold maxLen; omega, h5, h6⟩⟩, by unfold bdD; simp only; omega, hCu.keep hKs (fun q hq e => by omega), keep_new (keep_new (keep_new (keep_new (keep_new (keep_new (keep_new hKt2 (Nat.le_refl _) _) (Nat.le_refl _) _) (Nat.le_refl _) _) (Nat.le_refl _) _) (Nat.le_refl _) _) (Nat.le_refl _) _) (Nat.le_refl _) _⟩
    | true =>
     have hgu := hCu.lt
     have hRp : RdI (wu.alloc (.cells #[.int .i64 (-1), .int .i64 10, .int .i64 0] 3)) (fun q => q = wu.heap.size) (some ⟨wu.heap.size, 0, none⟩) 3 3 [-1, 10, 0] := RdI.litF (Blk.new _ _ _) rfl rfl (by simp) (by intro z hz; simp at hz; unfold I64; omega) rfl
     have hGa := (Grow.refl wu).alloc #[.int .i64 (-1), .int .i64 10, .int .i64 0] 3
     go_wp2_with fail
     refine (pickInt_c g _ _ _ _ _ (hCu.grow hGa) hRp (fun q hq => by omega) (by omega) (by omega)).mono ?_
     rintro e wv ⟨y, hy, rfl, hCv, hKv⟩
     have hy2 : I64 y := by simp at hy; unfold I64; omega
     have hKa := hGa.any.trans hKv
     have bDv := bDu.keep hKa (by omega)
     have bZv := bZu.keep hKa (by omega)
     have hOv := hOu.keep hKa (fun q hq _ e => by have := hv q hq; omega)
     have hKt3 := hKt2.trans hKa
     clear bDu bZu hOu hCu hKt2 hKa hGa hRp hKv hy
     obtain ⟨⟨d0, d1, d2, d3, d4, d5, d6⟩, df0⟩ := bDv.seven
     have df1 := bDv.free 1
     obtain ⟨⟨z0, z1, z2, z3, z4, z5, z6⟩, zf0⟩ := bZv.seven
     have zf1 := bZv.free 1
     have zf2 := bZv.free 2
     have zf3 := bZv.free 3
     have zf4 := bZv.free 4
     have zf5 := bZv.free 5
     have zf6 := bZv.free 6
     have hltD := bDv.lt
     have hltZ := bZv.lt
     go_wp2
     have hKs : Keep (fun q => q ≠ w.heap.size ∧ q ≠ gd) wv ((((((((wv.setCell ⟨gd, 1, none⟩ (.int .i64 y)).setCell ⟨w.heap.size, 0, none⟩ (.string nm)).setCell ⟨w.heap.size, 1, none⟩ (.int .i64 y)).setCell ⟨w.heap.size, 2, none⟩ (.string A)).setCell ⟨w.heap.size, 3, none⟩ (.string B)).setCell ⟨w.heap.size, 4, none⟩ (.int .i64 r)).setCell ⟨w.heap.size, 5, none⟩ (.int .i64 c)).setCell ⟨w.heap.size, 6, none⟩ (.slice va vn vc)) :=
      ((((((((Keep.refl _ wv).setCell (fun _ e => e.2 rfl) _).setCell (fun _ e => e.1 rfl) _).setCell (fun _ e => e.1 rfl) _).setCell (fun _ e => e.1 rfl) _).setCell (fun _ e => e.1 rfl) _).setCell (fun _ e => e.1 rfl) _).setCell (fun _ e => e.1 rfl) _).setCell (fun _ e => e.1 rfl) _
     exact ret_cell T_def rfl rfl rfl ((((((((bZv.other (p := ⟨gd, 1, none⟩) (by simp; omega) _).set 0 _).set 1 _).set 2 _).set 3 _).set 4 _).set 5 _).set 6 _) ⟨_, ⟨nm, y, A, B, ⟨r, c, xs⟩⟩, rfl, ⟨va, vn, vc, rfl, hOv.keep hKs (fun q hq _ => by have := hv q hq; omega), hx, (fun q hq => Nat.le_of_lt (hv q hq).1), ⟨by show nm.size ≤ maxLen; unfold maxLen; omega, hy2, by show A.size ≤ maxLen; unfold maxLen; omega, by show B.size ≤ maxLen; unfold maxLen; omega, h5, h6⟩⟩, by unfold bdD; simp only; omega, hCv.keep hKs (fun q hq => by omega), keep_new (keep_new (keep_new (keep_new (keep_new (keep_new (keep_new (keep_new hKt3 (Nat.le_of_lt hgd) _) (Nat.le_refl _) _) (Nat.le_refl _) _) (Nat.le_refl _) _) (Nat.le_refl _) _) (Nat.le_refl _) _) (Nat.le_refl _) _) (Nat.le_refl _) _⟩
end Go.Proofs.Ytgeoehnbpkediaa
