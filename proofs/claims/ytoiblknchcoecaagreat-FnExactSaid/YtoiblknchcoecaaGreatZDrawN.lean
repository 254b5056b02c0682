/-
  The draws of relations and of maps.
-/
import Derived.Test.YtoiblknchcoecaaGreatZDrawM
import Derived.Test.YtoiblknchcoecaaGreatZHermS
import Derived.Test.YtoiblknchcoecaaGreatZStack
import Derived.Test.YtoiblknchcoecaaGreatZIsMat
set_option maxHeartbeats 8000000
set_option maxRecDepth 100000
namespace Go.Proofs.YtoiblknchcoecaaGreat
open Go.RowKit
def DPost (w0 : World) (g : Nat) (v : Value) (w' : World) : Prop := ∃ m, OM w' (fun q => w0.heap.size ≤ q) v m ∧ bdM m ≤ 1025 ∧ Cur w' g ∧ Keep (fun q => q ≠ g) w0 w'
theorem l30Relations_c (g : Nat) (w : World) (h : Cur w g) :
  Calls Tryz.prog 43 #[.pointer (some ⟨g, 0, none⟩)] w fun e w' => ∃ v, e = .returned v ∧ DPost w g v w' := by
 have hlt := h.lt
 have hG1 := (Grow.refl w).alloc #[.int .i64 0, .int .i64 0, .slice none 0 0] 26
 have bZ := Blk.new w #[.int .i64 0, .int .i64 0, .slice none 0 0] 26
 go_enter Tryz.func43, Tryz.ntmps43
 go_wp2_with fail
 refine (l1Below_c g 3 _ (h.grow hG1) (by omega)).mono ?_
 rintro e w1 ⟨y, hy, rfl, hC1, hK1⟩
 go_wp2_with fail
 refine (l1Below_c g 4 _ hC1 (by omega)).mono ?_
 rintro e w2 ⟨x, hx, rfl, hC2, hK2⟩
 have hKa := hG1.any.trans (hK1.trans hK2)
 have bZ2 := bZ.keep (hK1.trans hK2) (by omega)
 have hs2 : w.heap.size < w2.heap.size := bZ2.lt
 clear bZ hC1 hK1 hK2
 go_wp2_with fail
 rw [show ((1 : Int) + (y : Int)) = ((1 + y : Nat) : Int) by omega]
 refine (l3DrawG_c g x (1 + y) 4 _ hC2 (by omega) (by omega) (by omega)).mono ?_
 rintro e w3 ⟨a, xs, rfl, hO, hxr, hlo, hC3, hK3⟩
 have hxl : xs.length = x * (1 + y) := by simpa using hO.len
 have hxy : x * (1 + y) ≤ 4 * 4 := Nat.mul_le_mul (by omega) (by omega)
 have hM : OM w3 (fun q => w.heap.size + 1 ≤ q) (.agg #[.int .i64 (x : Int), .int .i64 ((1 + y : Nat) : Int), .slice a (x * (1 + y)) (x * (1 + y))]) ⟨(x : Int), ((1 + y : Nat) : Int), xs⟩ :=
  ⟨a, _, _, rfl, hO, fun z hz => by have := hxr z hz; unfold I64; omega, fun q hq => by have := hlo q hq; omega, by show I64 (x : Int); unfold I64; omega, by show I64 ((1 + y : Nat) : Int); unfold I64; omega⟩
 have bZ3 := bZ2.keep hK3 (by omega)
 have hKb := hKa.trans hK3
 have hs3 := hK3.size
 go_wp2_with fail
 refine (l3Spoil_c (B := w.heap.size + 1) g _ _ _ hC3 hM (by unfold bdM; simp only; omega) (by omega) (by omega)).mono ?_
 rintro e w4 ⟨u, m', rfl, hM4, hb4, hC4, hK4⟩
 have bZ4 := bZ3.keep hK4 ⟨by omega, by omega⟩
 have hK5 : Keep (fun q => q ≠ g) w w4 := by
  have h1 : Keep (fun q => q < w.heap.size + 1 ∧ q ≠ g) w w3 := hKb.mono fun q _ hq => hq.2
  exact (h1.trans hK4).mono fun q hq hne => ⟨by omega, hne⟩
 obtain ⟨ma, mn, mc, rfl, o1, o2, o3, o4, o5⟩ := hM4
 obtain ⟨⟨z0, z1, z2⟩, f0, f1, f2⟩ := bZ4.three
 have hltZ := bZ4.lt
 have hKs : Keep (fun q => q ≠ w.heap.size) w4 (((w4.setCell ⟨w.heap.size, 0, none⟩ (.int .i64 m'.rows)).setCell ⟨w.heap.size, 1, none⟩ (.int .i64 m'.cols)).setCell ⟨w.heap.size, 2, none⟩ (.slice ma mn mc)) :=
  (((Keep.refl _ w4).setCell (fun _ e => e rfl) _).setCell (fun _ e => e rfl) _).setCell (fun _ e => e rfl) _
 clear bZ2 bZ3 hM hO hC2 hC3 hKa hKb hK3 hK4
 go_wp2
 exact ret_cell T_mat rfl rfl rfl (((bZ4.set 0 _).set 1 _).set 2 _) ⟨_, rfl, m', ⟨ma, mn, mc, rfl, o1.keep hKs (fun q hq _ e => by have := o3 q hq; omega), o2, fun q hq => by have := o3 q hq; omega, o4, o5⟩, hb4, hC4.keep hKs (fun q hq e => by omega), ((hK5.setCell (fun e => absurd e (Nat.lt_irrefl _)) _).setCell (fun e => absurd e (Nat.lt_irrefl _)) _).setCell (fun e => absurd e (Nat.lt_irrefl _)) _⟩
theorem sScale_c {S : Nat → Prop} {aa : Option Addr} {na ca R C : Nat} {xs : List Int} {w : World} (m : Int) (hA : RdI w S aa na ca xs) (hl : xs.length = R * C) (hnum : NumL xs) (hR : R ≤ 24) (hC : C ≤ 24) (hm : -5 ≤ m ∧ m ≤ 5) :
  Calls Tryz.prog 46 #[.agg #[.int .i64 R, .int .i64 C, .slice aa na ca], .int .i64 m] w fun e w' => ∃ r b, e = .returned (.tuple #[r, .bool b]) ∧ ∃ M, OM w' (fun q => w.heap.size ≤ q) r M ∧ bdM M ≤ 576 ∧ Grow w w' := by
 have hla := hA.len
 have hRC : R * C ≤ 24 * 24 := Nat.mul_le_mul hR hC
 have vA : VM w S (.agg #[.int .i64 R, .int .i64 C, .slice aa na ca]) { rows := (R : Int), cols := (C : Int), cells := xs } := ⟨aa, na, ca, rfl, hA, by show I64 (R : Int); unfold I64; omega, by show I64 (C : Int); unfold I64; omega⟩
 have HMA := Lib.hid (isMatB_ok hR hC hl hnum)
 have HN := Lib.hid (show isNumB m = true from isNumB_iff.2 (by omega))
 have Hl := Lib.hid hl
 obtain rfl : na = R * C := by omega
 obtain ⟨w3, hw3⟩ : ∃ w3, w3 = (w.alloc (.cells #[.int .i64 R, .int .i64 C, .slice aa (R * C) ca] 26)).alloc (.cells #[.int .i64 0, .int .i64 0, .slice none 0 0] 26) := ⟨_, rfl⟩
 have hG3 : Grow w w3 := by rw [hw3]; exact ((Grow.refl w).alloc _ _).alloc _ _
 have hs3 : w3.heap.size = w.heap.size + 2 := by rw [hw3]; simp
 have bA : Blk w3 w.heap.size #[.int .i64 R, .int .i64 C, .slice aa (R * C) ca] 26 := by rw [hw3]; exact (Blk.new w _ _).alloc _
 have bZ : Blk w3 (w.heap.size + 1) #[.int .i64 0, .int .i64 0, .slice none 0 0] 26 := by rw [hw3]; exact Blk.newAt _ _ _ (by simp)
 obtain ⟨⟨a0, a1, a2⟩, -⟩ := bA.three
 rw [hw3] at a0 a1 a2
 have Hw3 := Lib.hid hw3; clear hw3 hla hl
 go_enter Tryz.func46, Tryz.ntmps46
 go_wp2_with fail
 rw [← Hw3.out]
 refine (sIsMatrix_c (vA.grow hG3) (by unfold bdM; simp only; have := Hl.out; omega)).mono ?_
 rintro e w4 ⟨rfl, hG4⟩
 rw [HMA.out]
 clear a0 a1 a2
 go_wp2_with fail
 refine (sIsNumber_c m _).mono ?_
 rintro e _ ⟨rfl, rfl⟩
 rw [HN.out]
 have hG34 := hG3.trans hG4
 have bA4 := bA.grow hG4
 have bZ4 := bZ.grow hG4
 obtain ⟨⟨a0, a1, a2⟩, -⟩ := bA4.three
 have hltA := bA4.lt
 have hs34 := hG34.size
 go_wp2_with fail
 refine (l3New_c R C _ (by omega) (by omega)).mono ?_
 rintro e w6 ⟨ra, rfl, oR, fR, hG6⟩
 have bA6 := bA4.grow hG6
 have bZ6 := bZ4.grow hG6
 have hG36 := hG34.trans hG6
 have hlt6 : ∀ g, blk ra = some g → g < w6.heap.size := fun g hg => oR.lt hg
 have hltZ6 := bZ6.lt
 have hz4 : w.heap.size + 1 < w4.heap.size := bZ4.lt
 obtain ⟨w7, hw7⟩ : ∃ w7, w7 = w6.alloc (.cells #[.int .i64 R, .int .i64 C, .slice ra (R * C) (R * C)] 26) := ⟨_, rfl⟩
 have hG7 : Grow w6 w7 := by rw [hw7]; exact (Grow.refl w6).alloc _ _
 have bO7 : Blk w7 w6.heap.size #[.int .i64 R, .int .i64 C, .slice ra (R * C) (R * C)] 26 := by rw [hw7]; exact Blk.new w6 _ _
 have hO7 := oR.grow hG7
 have bA7 := bA6.grow hG7
 have bZ7 := bZ6.grow hG7
 have hG37 := hG36.trans hG7
 have hs6 := hG6.size
 have rA7 := (((hA.grow hG34).weak (T := fun g => g < w4.heap.size) (fun g hg _ => hg)).grow hG6).grow hG7
 have hKR : ∀ g, g < w7.heap.size → g < w4.heap.size → blk ra ≠ some g := fun g _ hg e => by have := fR _ e; omega
 have Hw7 := Lib.hid hw7
 have hzs : ∀ z ∈ List.replicate (R * C) (0 : Int), I64 z := zeros_rng
 clear hw7 a0 a1 a2 oR bA bZ bA4 bZ4 bA6 bZ6 vA
 generalize hrc : R * C = rc at *
 have Hrc := Lib.hid hrc; clear hrc
 go_wp2
 rw [← Hw7.out]
 go_loopw [7] (fun q wr => Keep (fun g => blk ra ≠ some g) w7 wr ∧ ∃ (k : Nat) (zs : List Int), k ≤ rc ∧ q = .int .i64 k ∧ Own wr 3 1 ra rc rc (ints zs) ∧ ∀ z ∈ zs, I64 z) (fun q _ => rc - (intOf q).toNat)
 case atStart => exact ⟨Keep.refl _ _, 0, _, Nat.zero_le _, rfl, hO7, hzs⟩
 case round =>
  clear hO7 hzs
  obtain ⟨u, rfl⟩ : ∃ u, u = wr := ⟨_, rfl⟩
  obtain ⟨hKp, k, zs, hk, rfl, hO, hzr⟩ := hrel
  have bOu := bO7.keep hKp (fun e => by have := hlt6 _ e; omega)
  have bAu := bA7.keep hKp (fun e => by have := fR _ e; omega)
  obtain ⟨⟨o0, o1, o2⟩, -⟩ := bOu.three
  have hltO := bOu.lt
  by_cases hlt : k < rc
  ·obtain ⟨⟨a0, a1, a2⟩, -⟩ := bAu.three
   have hltA' := bAu.lt
   have hzl : zs.length = rc := by simpa using hO.len
   have rAu := rA7.keep hKp hKR
   obtain ⟨pb, rfl⟩ := hO.at1 (by omega)
   obtain ⟨b1b, off1, x, rfl, hxx, -, -, hbw1, hcx⟩ := rAu.at hlt
   have hx := hnum x (List.mem_of_getElem? hxx)
   obtain ⟨y, hyk⟩ : ∃ y, zs[k]? = some y := ⟨_, List.getElem?_eq_getElem (by omega)⟩
   have hcd := hO.cell (j := k) (c := .int .i64 y) (by unfold ints; rw [List.getElem?_map, hyk]; rfl)
   have hpb := hO.lt (g := pb) rfl
   have hfr := hO.free k
   have hxm : -2000000000 ≤ x * m ∧ x * m ≤ 2000000000 := by
    have h1 : (x * m).natAbs ≤ 400000000 * 5 := by rw [Int.natAbs_mul]; exact Nat.mul_le_mul (by omega) (by omega)
    omega
   have hO9 := (hO.set k (.int .i64 (x * m))).grow (Grow.refl _).drew
   rw [← ints_set] at hO9
   have hK9 : Keep (fun g => blk (some (⟨pb, 0, none⟩ : Addr)) ≠ some g) w7 ((u.setCell ⟨pb, k, none⟩ (.int .i64 (x * m))).drew) := (hKp.setCell (p := ⟨pb, k, none⟩) (fun _ e => e rfl) _).drew
   have u5 : IntKind.i64.wrap (x * m) = x * m := IntWalk.i64_in _ (by omega)
   have hz9 : ∀ z ∈ zs.set k (x * m), I64 z := fun z hz => by
    rcases List.mem_or_eq_of_mem_set hz with h | rfl
    ·exact hzr z h
    ·unfold I64; omega
   simp only at hcx hcd hfr
   clear hO hxx hyk hzl hzr hx
   generalize hxme : x * m = xm at *
   go_wp2
   go_region
   go_wp2
   go_roundw
   case rel => exact ⟨hK9, k + 1, _, by omega, by go_num, hO9, hz9⟩
   case measure => simp [intOf]; omega
  ·have bZu := bZ7.keep hKp (fun e => by have := fR _ e; omega)
   have hGu : Grow w u := Grow.keep (S := fun g => blk ra ≠ some g) hG37 hKp (fun g hg e => by have := fR _ e; omega)
   have hsu := hGu.size
   have hzl : zs.length = rc := by simpa using hO.len
   have hOM : OM u (fun g => w.heap.size + 1 < g) (.agg #[.int .i64 R, .int .i64 C, .slice ra rc rc]) { rows := (R : Int), cols := (C : Int), cells := zs } :=
    ⟨ra, rc, rc, rfl, hO, hzr, (fun g hg => by have := fR g hg; omega), by show I64 (R : Int); unfold I64; omega, by show I64 (C : Int); unfold I64; omega⟩
   have hbd : bdM { rows := (R : Int), cols := (C : Int), cells := zs } ≤ 576 := by unfold bdM; simp only; omega
   have hbd2 : bdM (okM { rows := (R : Int), cols := (C : Int), cells := zs }) ≤ 576 := by
    unfold okM
    split
    ·exact hbd
    ·unfold bdM; simp
   go_wp2_with fail
   refine (l3Done_c hOM (by omega)).mono ?_
   rintro e w9 ⟨m9, rfl, hO9, hG9⟩
   obtain ⟨a9, n9, c9, rfl, o9, x9, f9, i9, j9⟩ := hO9
   generalize okM { rows := (R : Int), cols := (C : Int), cells := zs } = MM at *
   generalize isMatB { rows := (R : Int), cols := (C : Int), cells := zs } = mb at *
   have hs9 := hG9.size
   have bZ9 := bZu.grow hG9
   have hGa := hGu.trans hG9
   clear o0 o1 o2
   have bZA := bZ9.alloc (.cells #[.int .i64 MM.rows, .int .i64 MM.cols, .slice a9 n9 c9] 26)
   obtain ⟨⟨z0, z1, z2⟩, g0, g1, g2⟩ := bZA.three
   obtain ⟨⟨y0, y1, y2⟩, f0, f1, f2⟩ := bZ9.three
   have hltZ9 := bZ9.lt
   have hle : w.heap.size ≤ w.heap.size + 1 := by omega
   go_wp2
   refine ret_cell_tmp T_mat rfl rfl rfl ((((bZ9.set 0 _).set 1 _).set 2 _).alloc _) ⟨_, _, rfl, MM, ⟨a9, n9, c9, rfl, ?_, x9, ?_, i9, j9⟩, hbd2, (((hGa.setCell hle _).setCell hle _).setCell hle _).alloc _ _⟩
   ·exact (o9.keep ((((Keep.refl (fun q => q ≠ w.heap.size + 1) w9).setCell (fun _ e => e rfl) _).setCell (fun _ e => e rfl) _).setCell (fun _ e => e rfl) _) (fun g hg _ e => by have := f9 g hg; omega)).grow ((Grow.refl _).alloc _ _)
   ·intro g hg
    have h2 := f9 g hg
    omega
end Go.Proofs.YtoiblknchcoecaaGreat

namespace Go.Proofs.YtoiblknchcoecaaGreat
open Go.RowKit
theorem Keep.thru {S T : Nat → Prop} {a b c : World} (h : Keep S a b) (k : Keep T b c) (hT : ∀ i, i < a.heap.size → S i → T i) : Keep S a c :=
 ⟨k.os.trans h.os, k.tape.trans h.tape, k.output.trans h.output, Nat.le_trans h.size k.size, fun x hx => (k.frozen x (Nat.lt_of_lt_of_le hx h.size)).trans (h.frozen x hx),
  fun i hi hs => (k.block i (Nat.lt_of_lt_of_le hi h.size) (hT i hi hs)).trans (h.block i hi hs)⟩
theorem ret_cells3 {P : Program} {fn : Func} {R : Ending → World → Prop} {a : Act} {w : World} {ty : TypeId} {cs ds es : Array Value} {p q r : Tmp} {g g' g'' : Nat} {t : TypeId} (hT : StT P ty cs.size) (hT' : StT P ty ds.size) (hT'' : StT P ty es.size) (h : fn.results = #[.cell p ty, .cell q ty, .cell r ty]) (hd : a.defers = []) (hp : a.tmps.getD p undef = .pointer (some ⟨g, 0, none⟩)) (hq : a.tmps.getD q undef = .pointer (some ⟨g', 0, none⟩)) (hr : a.tmps.getD r undef = .pointer (some ⟨g'', 0, none⟩))
  (hb : Blk w g cs t) (hb' : Blk w g' ds t) (hb'' : Blk w g'' es t) (hR : R (.returned (.tuple #[.agg cs, .agg ds, .agg es])) w) : bodyPost P fn R .ret a w := by
 have hp' : a.tmps[p]?.getD undef = .pointer (some ⟨g, 0, none⟩) := by simpa using hp
 have hq' : a.tmps[q]?.getD undef = .pointer (some ⟨g', 0, none⟩) := by simpa using hq
 have hr' : a.tmps[r]?.getD undef = .pointer (some ⟨g'', 0, none⟩) := by simpa using hr
 refine bodyPost_ret (v := .tuple #[.agg cs, .agg ds, .agg es]) ?_ hd hR
 simp [results, h, hp', hq', hr', asAddr, hT.load hb, hT'.load hb', hT''.load hb'']
structure OMx (B : Nat) (w : World) (a : Option Addr) (n c : Nat) (m : Mat) : Prop where
 own : Own w 3 1 a n c (ints m.cells)
 rng : ∀ x ∈ m.cells, I64 x
 low : ∀ q, blk a = some q → B ≤ q
 rows : I64 m.rows
 cols : I64 m.cols
 bd : bdM m ≤ 1025
theorem OMx.keep {B n c : Nat} {w w' : World} {a : Option Addr} {m : Mat} {S : Nat → Prop} (h : OMx B w a n c m) (k : Keep S w w') (hS : ∀ q, B ≤ q → S q) : OMx B w' a n c m :=
 ⟨h.own.keep k (fun q hq _ => hS q (h.low q hq)), h.rng, h.low, h.rows, h.cols, h.bd⟩
theorem OMx.keep2 {B n c : Nat} {w w' : World} {a : Option Addr} {m : Mat} {S : Nat → Prop} (h : OMx B w a n c m) (k : Keep S w w') (hS : ∀ q, blk a = some q → S q) : OMx B w' a n c m :=
 ⟨h.own.keep k (fun q hq _ => hS q hq), h.rng, h.low, h.rows, h.cols, h.bd⟩
theorem OMx.grow {B n c : Nat} {w w' : World} {a : Option Addr} {m : Mat} (h : OMx B w a n c m) (k : Grow w w') : OMx B w' a n c m := h.keep k fun _ _ => trivial
theorem OMx.of {B : Nat} {w : World} {v : Value} {m : Mat} {F : Nat → Prop} (h : OM w F v m) (hF : ∀ q, F q → B ≤ q) (hb : bdM m ≤ 1025) : ∃ a n c, v = .agg #[.int .i64 m.rows, .int .i64 m.cols, .slice a n c] ∧ OMx B w a n c m := by
 obtain ⟨a, n, c, rfl, h1, h2, h3, h4, h5⟩ := h
 exact ⟨a, n, c, rfl, h1, h2, fun q hq => hF q (h3 q hq), h4, h5, hb⟩
def OMs (B : Nat) (w' : World) (v : Value) : Prop := ∃ m a n c, v = .agg #[.int .i64 m.rows, .int .i64 m.cols, .slice a n c] ∧ OMx B w' a n c m
theorem OMx.oms {B B' n c : Nat} {w : World} {a : Option Addr} {m : Mat} (h : OMx B w a n c m) (hB : B' ≤ B) : OMs B' w (.agg #[.int .i64 m.rows, .int .i64 m.cols, .slice a n c]) :=
 ⟨m, a, n, c, rfl, h.own, h.rng, fun q hq => Nat.le_trans hB (h.low q hq), h.rows, h.cols, h.bd⟩
theorem OMx.vm {B n c : Nat} {w : World} {a : Option Addr} {m : Mat} (h : OMx B w a n c m) : VM w (fun _ => True) (.agg #[.int .i64 m.rows, .int .i64 m.cols, .slice a n c]) m :=
 ⟨_, _, _, rfl, h.own.rdI (fun _ _ => trivial) h.rng, h.rows, h.cols⟩
theorem relV_c (B g : Nat) (w : World) (h : Cur w g) (hB : B ≤ w.heap.size) :
  Calls Tryz.prog 43 #[.pointer (some ⟨g, 0, none⟩)] w fun e w' => ∃ a n c m, e = .returned (.agg #[.int .i64 m.rows, .int .i64 m.cols, .slice a n c]) ∧ OMx B w' a n c m ∧ Cur w' g ∧ Keep (fun q => q ≠ g) w w' := by
 refine (l30Relations_c g w h).mono ?_
 rintro e w' ⟨v, rfl, m, hM, hb, hC, hKp⟩
 obtain ⟨a, n, c, rfl, hx⟩ := OMx.of hM (fun q hq => Nat.le_trans hB hq) hb
 exact ⟨a, n, c, m, rfl, hx, hC, hKp⟩
theorem l3DrawV_c (B g r c k : Nat) (w : World) (h : Cur w g) (hr : r ≤ 24) (hc : c ≤ 24) (hk : k ≤ 100) (hB : B ≤ w.heap.size) :
  Calls Tryz.prog 48 #[.pointer (some ⟨g, 0, none⟩), .int .i64 r, .int .i64 c, .int .i64 k] w fun e w' => ∃ a n l m, e = .returned (.agg #[.int .i64 m.rows, .int .i64 m.cols, .slice a n l]) ∧ OMx B w' a n l m ∧ m.rows = (r : Int) ∧ m.cols = (c : Int) ∧ isMatB m = true ∧ Cur w' g ∧ Keep (fun q => q ≠ g) w w' := by
 refine (l3DrawG_c g r c k w h hr hc hk).mono ?_
 rintro e w' ⟨a, xs, rfl, hO, hx, hlo, hC, hKp⟩
 have hl : xs.length = r * c := by simpa using hO.len
 have hrc : r * c ≤ 24 * 24 := Nat.mul_le_mul hr hc
 exact ⟨a, _, _, ⟨r, c, xs⟩, rfl, ⟨hO, fun x h => by have := hx x h; unfold I64; omega, fun q hq => Nat.le_trans hB (hlo q hq), by show I64 (r : Int); unfold I64; omega, by show I64 (c : Int); unfold I64; omega, by show xs.length ≤ 1025; omega⟩, rfl, rfl,
  isMatB_ok hr hc hl (fun x h => by have := hx x h; omega), hC, hKp⟩
theorem l3DrawR_c (B g r c k : Nat) (ri : Int) (hri : ri = (r : Int)) (w : World) (h : Cur w g) (hr : r ≤ 24) (hc : c ≤ 24) (hk : k ≤ 100) (hB : B ≤ w.heap.size) :
  Calls Tryz.prog 48 #[.pointer (some ⟨g, 0, none⟩), .int .i64 ri, .int .i64 c, .int .i64 k] w fun e w' => ∃ a n l m, e = .returned (.agg #[.int .i64 m.rows, .int .i64 m.cols, .slice a n l]) ∧ OMx B w' a n l m ∧ m.rows = (r : Int) ∧ m.cols = (c : Int) ∧ isMatB m = true ∧ Cur w' g ∧ Keep (fun q => q ≠ g) w w' := by
 subst hri
 exact l3DrawV_c B g r c k w h hr hc hk hB
theorem l3DrawI_c (B g r c k : Nat) (ci : Int) (hci : ci = (c : Int)) (w : World) (h : Cur w g) (hr : r ≤ 24) (hc : c ≤ 24) (hk : k ≤ 100) (hB : B ≤ w.heap.size) :
  Calls Tryz.prog 48 #[.pointer (some ⟨g, 0, none⟩), .int .i64 r, .int .i64 ci, .int .i64 k] w fun e w' => ∃ a n l m, e = .returned (.agg #[.int .i64 m.rows, .int .i64 m.cols, .slice a n l]) ∧ OMx B w' a n l m ∧ m.rows = (r : Int) ∧ m.cols = (c : Int) ∧ isMatB m = true ∧ Cur w' g ∧ Keep (fun q => q ≠ g) w w' := by
 subst hci
 exact l3DrawV_c B g r c k w h hr hc hk hB
theorem mm4 (c : Int) : ∃ x : Nat, x ≤ 4 ∧ (if 0 < (if 4 < c then 4 else c) then (if 4 < c then 4 else c) else 0) = (x : Int) := by
 refine ⟨(if 0 < (if 4 < c then 4 else c) then (if 4 < c then 4 else c) else 0).toNat, ?_, ?_⟩ <;> split <;> split <;> omega
def MPost (w0 : World) (g : Nat) (v1 v2 v3 : Value) (w' : World) : Prop := OMs w0.heap.size w' v1 ∧ OMs w0.heap.size w' v2 ∧ OMs w0.heap.size w' v3 ∧ Cur w' g ∧ Keep (fun q => q ≠ g) w0 w'
theorem par_load {P : Program} {Q : Exit → Act → World → Prop} {K : Act → World → Prop} {o : Oper} {a : Act} {w : World} {ty : TypeId} {x : Operand} {g : Nat} {cs : Array Value} {t : TypeId} (hty : StT P ty cs.size) (ho : o.op = .load ty x) (hx : a.eval x = .pointer (some ⟨g, 0, none⟩)) (hb : Blk w g cs t)
  (h : K (a.put o.dst (.agg cs)) w) : o.wp P a w K Q := by
 have h1 := hty.load hb
 refine par_value (v := .agg cs) (w' := w) ?_ h
 unfold execOp
 simp [ho, hx, Instr.loadAt, Instr.sureAddr, h1]
theorem free_sub1 {P : Program} {o : Oper} {a : Act} {x : Operand} {t s : TypeId} {y : Int} (ho : o.op = .binOp .sub t x (.const (.int .i64 1)) s) (hx : a.eval x = .int .i64 y) (w : World) : (execOp a.eval o).run P w = .ok (.value (.int .i64 (IntKind.i64.wrap (y - 1)))) w := by
 have h1 : a.eval (.const (.int .i64 1)) = .int .i64 1 := rfl
 unfold execOp
 simp only [ho, hx, h1]
 rfl
theorem OMs.keep {B : Nat} {w w' : World} {v : Value} {S : Nat → Prop} (h : OMs B w v) (k : Keep S w w') (hS : ∀ q, B ≤ q → S q) : OMs B w' v := by
 obtain ⟨m, a, n, c, rfl, h⟩ := h
 exact ⟨m, a, n, c, rfl, h.keep k hS⟩
def ScPost (B : Nat) (V : Value) : Nat → Value → World → Prop
 | 0, v, _ => v = V
 | 2, v, _ => ∃ y : Nat, (y < 5 ∨ y = 0) ∧ v = .int .i64 (y : Int)
 | 3, v, _ => ∃ z : Int, -5 ≤ z ∧ z ≤ 5 ∧ v = .int .i64 z
 | 4, v, w => ∃ r b, v = .tuple #[r, .bool b] ∧ OMs B w r
 | 5, v, w => ∃ r b, v = .tuple #[r, .bool b] ∧ OMs B w r
 | 6, v, w => OMs B w v
 | _, _, _ => True
theorem ScPost.stays {B g : Nat} {V : Value} (hg : g < B) : ∀ i v w w', Keep (fun q => q ≠ g) w w' → ScPost B V i v w → ScPost B V i v w' := fun i v w w' hG h => by
 have hS : ∀ q, B ≤ q → q ≠ g := fun q hq => by omega
 unfold ScPost at *
 split at h
 ·exact h
 ·exact h
 ·exact h
 ·obtain ⟨r, b, h1, h2⟩ := h; exact ⟨r, b, h1, h2.keep hG hS⟩
 ·obtain ⟨r, b, h1, h2⟩ := h; exact ⟨r, b, h1, h2.keep hG hS⟩
 ·exact h.keep hG hS
 ·trivial
theorem free_add1 {P : Program} {o : Oper} {a : Act} {x : Operand} {t s : TypeId} {y : Int} (ho : o.op = .binOp .add t (.const (.int .i64 1)) x s) (hx : a.eval x = .int .i64 y) (w : World) : (execOp a.eval o).run P w = .ok (.value (.int .i64 (IntKind.i64.wrap (1 + y)))) w := by
 have h1 : a.eval (.const (.int .i64 1)) = .int .i64 1 := rfl
 unfold execOp
 simp only [ho, hx, h1]
 rfl
theorem Own.ne_blkD {w : World} {e t : TypeId} {sz : Nat} {a : Option Addr} {n cap g : Nat} {cs : List Value} {ds : Array Value} (ho : Own w e sz a n cap cs) (hb : Blk w g ds t) (hne : e ≠ t) : blk a ≠ some g := fun h => by
 cases a with
 | none => simp at h
 | some p =>
  simp at h
  obtain ⟨_, cur, h2, _⟩ := ho.block p rfl
  rw [h] at h2
  have := h2.symm.trans hb
  simp only [Option.some.injEq, Obj.cells.injEq] at this
  exact hne this.2.1
theorem par_call4 {P : Program} {Q : Exit → Act → World → Prop} {K : Act → World → Prop} {o : Oper} {a : Act} {w : World} {f : FuncId} {x y z t : Operand} {v u v' u' : Value} {ts : Array TypeId} {fn : Func} {c : Code} (ho : o.op = .call { callee := .value (.func f), args := #[x, y, z, t], argTypes := ts }) (hf : P.funcs[f]? = some fn) (hname : (fn.name == "runtime.NumGoroutine") = false) (hb : fn.body = some c)
  (hx : a.eval x = v) (hy : a.eval y = u) (hz : a.eval z = v') (ht : a.eval t = u') (h : Calls P f #[v, u, v', u'] w fun e w' => ∃ v, e = .returned v ∧ K (a.put o.dst v) w') : o.wp P a w K Q := by
 subst hx; subst hy; subst hz; subst ht; exact par_call ho hf hname hb (by simpa using h)
def OMd (B : Nat) (C : Int) (w : World) (v : Value) : Prop := ∃ m a n c, v = .agg #[.int .i64 m.rows, .int .i64 m.cols, .slice a n c] ∧ OMx B w a n c m ∧ m.rows = C ∧ isMatB m = true
def DrPost (B : Nat) (C : Int) : Nat → Value → World → Prop
 | 4, v, _ => ∃ y : Nat, (y < 3 ∨ y = 0) ∧ v = .int .i64 (y : Int)
 | 5, v, _ => ∃ y : Nat, y ≤ 3 ∧ v = .int .i64 (y : Int)
 | 6, v, w => OMd B C w v
 | 7, v, w => ∃ g, v = .pointer (some ⟨g, 0, none⟩) ∧ B ≤ g ∧ Blk w g #[.int .i64 0, .int .i64 0, .slice none 0 0] 26
 | _, _, _ => True
theorem DrPost.stays {B g : Nat} {C : Int} (hg : g < B) : ∀ i v w w', Keep (fun q => q ≠ g) w w' → DrPost B C i v w → DrPost B C i v w' := fun i v w w' hG h => by
 have hS : ∀ q, B ≤ q → q ≠ g := fun q hq => by omega
 unfold DrPost at *
 split at h
 ·exact h
 ·exact h
 ·obtain ⟨m, a, n, c, h1, h2, h3⟩ := h; exact ⟨m, a, n, c, h1, h2.keep hG hS, h3⟩
 ·obtain ⟨q, h1, h2, h3⟩ := h; exact ⟨q, h1, h2, h3.keep hG (hS q h2)⟩
 ·trivial
theorem l31Map_c (g : Nat) (w : World) (h : Cur w g) :
  Calls Tryz.prog 20 #[.pointer (some ⟨g, 0, none⟩)] w fun e w' => ∃ v1 v2 v3, e = .returned (.tuple #[v1, v2, v3]) ∧ MPost w g v1 v2 v3 w' := by
 have hlt := h.lt
 obtain ⟨w1, hw1⟩ : ∃ w1, w1 = ((w.alloc (.cells #[.int .i64 0, .int .i64 0, .slice none 0 0] 26)).alloc (.cells #[.int .i64 0, .int .i64 0, .slice none 0 0] 26)).alloc (.cells #[.int .i64 0, .int .i64 0, .slice none 0 0] 26) := ⟨_, rfl⟩
 have hG1 : Grow w w1 := by rw [hw1]; exact (((Grow.refl w).alloc _ _).alloc _ _).alloc _ _
 have b0 : Blk w1 w.heap.size #[.int .i64 0, .int .i64 0, .slice none 0 0] 26 := by rw [hw1]; exact ((Blk.new _ _ _).alloc _).alloc _
 have b1 : Blk w1 (w.heap.size + 1) #[.int .i64 0, .int .i64 0, .slice none 0 0] 26 := by rw [hw1]; exact (Blk.newAt _ _ _ (by simp)).alloc _
 have b2 : Blk w1 (w.heap.size + 1 + 1) #[.int .i64 0, .int .i64 0, .slice none 0 0] 26 := by rw [hw1]; exact Blk.newAt _ _ _ (by simp)
 have hC1 := h.grow hG1
 have hs1 := b2.lt
 go_enter Tryz.func20, Tryz.ntmps20
 go_wp2_with fail
 rw [← hw1]
 refine (relV_c (w.heap.size + 3) g _ hC1 (by omega)).mono ?_
 rintro e w2 ⟨ra, rn, rc, m, rfl, pR, hC2, hK2⟩
 have hs2 := hK2.size
 have hRlt : ∀ q, blk ra = some q → q < w2.heap.size := fun q hq => pR.own.lt hq
 obtain ⟨w3, hw3⟩ : ∃ w3, w3 = w2.alloc (.cells #[.int .i64 m.rows, .int .i64 m.cols, .slice ra rn rc] 26) := ⟨_, rfl⟩
 have hG3 : Grow w2 w3 := by rw [hw3]; exact (Grow.refl w2).alloc _ _
 have bR : Blk w3 w2.heap.size #[.int .i64 m.rows, .int .i64 m.cols, .slice ra rn rc] 26 := by rw [hw3]; exact Blk.new _ _ _
 have hC := hC2.grow hG3
 replace b0 := (b0.keep hK2 (by omega)).grow hG3
 replace b1 := (b1.keep hK2 (by omega)).grow hG3
 replace b2 := (b2.keep hK2 (by omega)).grow hG3
 have hKp := (hG1.any.trans hK2).trans hG3.any
 replace pR := pR.grow hG3
 have hltR := bR.lt
 obtain ⟨⟨e0, e1, e2⟩, -⟩ := bR.three
 clear hC1 hC2 h hG1 hK2 hG3
 go_wp2_with fail
 rw [← hw3]
 clear hw1 hw3
 refine (sIsMatrix_c pR.vm (by have := pR.bd; omega)).mono ?_
 rintro e w4 ⟨rfl, hG4⟩
 replace b0 := b0.grow hG4
 replace b1 := b1.grow hG4
 replace b2 := b2.grow hG4
 replace bR := bR.grow hG4
 replace pR := pR.grow hG4
 replace hC := hC.grow hG4
 replace hKp := hKp.trans hG4.any
 replace hltR := bR.lt
 clear e0 e1 e2 hG4
 obtain ⟨⟨e0, e1, e2⟩, -⟩ := bR.three
 cases hmb : isMatB m with
 | false =>
  have Hmb := Lib.hid hmb; clear hmb
  go_wp2_with fail
  refine (sIsMatrix_c pR.vm (by have := pR.bd; omega)).mono ?_
  rintro e w5 ⟨rfl, hG5⟩
  rw [Hmb.out]
  replace b0 := b0.grow hG5
  replace b1 := b1.grow hG5
  replace b2 := b2.grow hG5
  replace bR := bR.grow hG5
  replace pR := pR.grow hG5
  replace hC := hC.grow hG5
  replace hKp := hKp.trans hG5.any
  replace hltR := bR.lt
  clear e0 e1 e2 hG5
  obtain ⟨⟨e0, e1, e2⟩, -⟩ := bR.three
  go_wp2_with fail
  refine (relV_c (w.heap.size + 3) g _ hC (by omega)).mono ?_
  rintro e wv ⟨sa, sn, sc, ms, rfl, pS, hCv, hKv⟩
  have hsv := hKv.size
  replace b0 := b0.keep hKv (by omega)
  replace b1 := b1.keep hKv (by omega)
  replace b2 := b2.keep hKv (by omega)
  replace bR := bR.keep hKv (by omega)
  replace pR := pR.keep hKv (fun q hq => by omega)
  replace hKp := hKp.trans hKv
  clear hC
  go_wp2_with fail
  obtain ⟨wx, hwx⟩ : ∃ wx, wx = wv.alloc (.cells #[.int .i64 ms.rows, .int .i64 ms.cols, .slice sa sn sc] 26) := ⟨_, rfl⟩
  have hGx : Grow wv wx := by rw [hwx]; exact (Grow.refl wv).alloc _ _
  have bS : Blk wx wv.heap.size #[.int .i64 ms.rows, .int .i64 ms.cols, .slice sa sn sc] 26 := by rw [hwx]; exact Blk.new _ _ _
  have hC := hCv.grow hGx
  replace b0 := b0.grow hGx
  replace b1 := b1.grow hGx
  replace b2 := b2.grow hGx
  replace bR := bR.grow hGx
  replace pR := pR.grow hGx
  replace pS := pS.grow hGx
  replace hKp := hKp.trans hGx.any
  have hltv := bR.lt
  have hltS := bS.lt
  obtain ⟨⟨e0, e1, e2⟩, -⟩ := bR.three
  obtain ⟨⟨d0, d1, d2⟩, -⟩ := bS.three
  rw [← hwx]
  clear hwx hGx hKv hCv
  have nR : w2.heap.size ≠ g ∧ w2.heap.size ≠ w.heap.size ∧ w2.heap.size ≠ w.heap.size + 1 ∧ w2.heap.size ≠ w.heap.size + 1 + 1 := ⟨by omega, by omega, by omega, by omega⟩
  have nS : wv.heap.size ≠ g ∧ wv.heap.size ≠ w.heap.size ∧ wv.heap.size ≠ w.heap.size + 1 ∧ wv.heap.size ≠ w.heap.size + 1 + 1 := ⟨by omega, by omega, by omega, by omega⟩
  refine wp_region_segs (S := (Keep (fun q => q ≠ g ∧ q ≠ w.heap.size ∧ q ≠ w.heap.size + 1 ∧ q ≠ w.heap.size + 1 + 1) wx)) [([0, 1, 2, 3, 4, 5, 6, 7, 8, 9, 10], some 11), ([], some 12), ([], some 13), ([], some 14)] P_mixed (by kernel_rfl) (fun _ _ _ _ _ h => h) (Keep.refl _ _).drew ?_
  show wpQuiet _ _ _ _ [_, _, _, _, _, _, _, _, _, _, _] _
  repeat (first | go_big_quiet_skip | (go_big_quiet_want; first | (apply quiet_load3 T_mat; rfl; rfl; exact (fun w' hG => bR.keep hG nR); go_big_quiet_on; simp only [Act.put, List.setIfInBounds_toArray, List.set_cons_succ, List.set_cons_zero]) | (apply quiet_load3 T_mat; rfl; rfl; exact (fun w' hG => bS.keep hG nS); go_big_quiet_on; simp only [Act.put, List.setIfInBounds_toArray, List.set_cons_succ, List.set_cons_zero]) | (apply quiet_load CT_int; rfl; rfl; exact (fun w' hG => hG.cell nR e1); go_big_quiet_on; simp only [Act.put, List.setIfInBounds_toArray, List.set_cons_succ, List.set_cons_zero]) | (apply quiet_load CT_int; rfl; rfl; exact (fun w' hG => hG.cell nS d1); go_big_quiet_on; simp only [Act.put, List.setIfInBounds_toArray, List.set_cons_succ, List.set_cons_zero]) | (go_big_quiet_op; first | go_big_quiet_on | (refine ⟨_, (fun _ _ => rfl), ?_⟩; go_big_quiet_on))))
  refine wpQuiet_nil ?_
  refine seg_go rfl (fun K hK => ?_)
  obtain ⟨x, hx, ex⟩ := mm4 m.cols
  obtain ⟨y, hy, ey⟩ := mm4 ms.cols
  rw [ex, ey]
  generalize (if 4 < m.cols then (4 : Int) else m.cols) = ux
  generalize (if 4 < ms.cols then (4 : Int) else ms.cols) = uy
  clear ex ey
  go_wp2_with fail
  refine (l3DrawV_c (w.heap.size + 3) g x y 3 _ (hC.grow (Grow.refl _).drew) (by omega) (by omega) (by omega) (by show _ ≤ wx.heap.size; omega)).mono ?_
  rintro e wa ⟨fa, fn, fc, mf, rfl, p3, -, -, -, hCa, hKa⟩
  have hKd : Keep (fun q => q ≠ g) wx wa := ((Grow.refl wx).drew.any).trans hKa
  have r0 := b0.keep hKd (by omega)
  have r1 := b1.keep hKd (by omega)
  have r2 := b2.keep hKd (by omega)
  have p1 := pR.keep hKd (fun q hq => by omega)
  have p2 := pS.keep hKd (fun q hq => by omega)
  have hKw := hKp.trans hKd
  have hS : Keep (fun q => q ≠ g ∧ q ≠ w.heap.size ∧ q ≠ w.heap.size + 1 ∧ q ≠ w.heap.size + 1 + 1) wx wa := hKd.mono fun q _ h => h.1
  clear hC hKa b0 b1 b2 pR pS bR bS e0 e1 e2 d0 d1 d2
  go_wp2_with fail
  refine hK _ _ (hS) ?_
  clear hK K
  show wpQuiet _ _ _ _ [] _
  try (conv => arg 6; simp only [Act.put, List.setIfInBounds_toArray, List.set_cons_succ, List.set_cons_zero])
  refine wpQuiet_nil ?_
  refine seg_go rfl (fun K hK => ?_)
  obtain ⟨⟨u0, u1, u2⟩, f0, f1, f2⟩ := r0.three
  have hl0 := r0.lt
  go_wp2_with fail
  have k0 : Keep (fun q => q ≠ w.heap.size) wa (((wa.setCell ⟨w.heap.size, 0, none⟩ (.int .i64 m.rows)).setCell ⟨w.heap.size, 1, none⟩ (.int .i64 m.cols)).setCell ⟨w.heap.size, 2, none⟩ (.slice ra rn rc)) :=
   (((Keep.refl _ wa).setCell (fun _ e => e rfl) _).setCell (fun _ e => e rfl) _).setCell (fun _ e => e rfl) _
  have s0 := ((r0.set 0 (.int .i64 m.rows)).set 1 (.int .i64 m.cols)).set 2 (.slice ra rn rc)
  have s1 := r1.keep k0 (by omega)
  have s2 := r2.keep k0 (by omega)
  have z1 := p1.keep k0 (fun q hq => by omega)
  have z2 := p2.keep k0 (fun q hq => by omega)
  have z3 := p3.keep k0 (fun q hq => by omega)
  have hCb := hCa.keep k0 (fun q hq => by omega)
  have hKb := hKw.thru k0 (fun q hq _ => by omega)
  have hS0 := hS.trans (k0.mono fun q _ hb => hb.2.1)
  refine hK _ _ (hS0) ?_
  clear hK K
  generalize (((wa.setCell ⟨w.heap.size, 0, none⟩ (.int .i64 m.rows)).setCell ⟨w.heap.size, 1, none⟩ (.int .i64 m.cols)).setCell ⟨w.heap.size, 2, none⟩ (.slice ra rn rc)) = wb at *
  clear u0 u1 u2 f0 f1 f2 r0 r1 r2 p1 p2 p3 hl0
  show wpQuiet _ _ _ _ [] _
  try (conv => arg 6; simp only [Act.put, List.setIfInBounds_toArray, List.set_cons_succ, List.set_cons_zero])
  refine wpQuiet_nil ?_
  refine seg_go rfl (fun K hK => ?_)
  obtain ⟨⟨u0, u1, u2⟩, f0, f1, f2⟩ := s1.three
  have hl0 := s1.lt
  go_wp2_with fail
  have k1 : Keep (fun q => q ≠ w.heap.size + 1) wb (((wb.setCell ⟨w.heap.size + 1, 0, none⟩ (.int .i64 ms.rows)).setCell ⟨w.heap.size + 1, 1, none⟩ (.int .i64 ms.cols)).setCell ⟨w.heap.size + 1, 2, none⟩ (.slice sa sn sc)) :=
   (((Keep.refl _ wb).setCell (fun _ e => e rfl) _).setCell (fun _ e => e rfl) _).setCell (fun _ e => e rfl) _
  have t1 := ((s1.set 0 (.int .i64 ms.rows)).set 1 (.int .i64 ms.cols)).set 2 (.slice sa sn sc)
  have t0 := s0.keep k1 (by omega)
  have t2 := s2.keep k1 (by omega)
  have y1 := z1.keep k1 (fun q hq => by omega)
  have y2 := z2.keep k1 (fun q hq => by omega)
  have y3 := z3.keep k1 (fun q hq => by omega)
  have hCc := hCb.keep k1 (fun q hq => by omega)
  have hKc := hKb.thru k1 (fun q hq _ => by omega)
  have hS1 := hS0.trans (k1.mono fun q _ hb => hb.2.2.1)
  refine hK _ _ (hS1) ?_
  clear hK K
  generalize (((wb.setCell ⟨w.heap.size + 1, 0, none⟩ (.int .i64 ms.rows)).setCell ⟨w.heap.size + 1, 1, none⟩ (.int .i64 ms.cols)).setCell ⟨w.heap.size + 1, 2, none⟩ (.slice sa sn sc)) = wc at *
  clear u0 u1 u2 f0 f1 f2 s0 s1 s2 z1 z2 z3 hl0
  show wpQuiet _ _ _ _ [] _
  try (conv => arg 6; simp only [Act.put, List.setIfInBounds_toArray, List.set_cons_succ, List.set_cons_zero])
  refine wpQuiet_nil ?_
  refine seg_go rfl (fun K hK => ?_)
  obtain ⟨⟨u0, u1, u2⟩, f0, f1, f2⟩ := t2.three
  have hl0 := t2.lt
  go_wp2_with fail
  have k2 : Keep (fun q => q ≠ w.heap.size + 1 + 1) wc (((wc.setCell ⟨w.heap.size + 1 + 1, 0, none⟩ (.int .i64 mf.rows)).setCell ⟨w.heap.size + 1 + 1, 1, none⟩ (.int .i64 mf.cols)).setCell ⟨w.heap.size + 1 + 1, 2, none⟩ (.slice fa fn fc)) :=
   (((Keep.refl _ wc).setCell (fun _ e => e rfl) _).setCell (fun _ e => e rfl) _).setCell (fun _ e => e rfl) _
  have q2 := ((t2.set 0 (.int .i64 mf.rows)).set 1 (.int .i64 mf.cols)).set 2 (.slice fa fn fc)
  have q0 := t0.keep k2 (by omega)
  have q1 := t1.keep k2 (by omega)
  have x1 := y1.keep k2 (fun q hq => by omega)
  have x2 := y2.keep k2 (fun q hq => by omega)
  have x3 := y3.keep k2 (fun q hq => by omega)
  have hCd := hCc.keep k2 (fun q hq => by omega)
  have hKd := hKc.thru k2 (fun q hq _ => by omega)
  have hS2 := hS1.trans (k2.mono fun q _ hb => hb.2.2.2)
  refine hK _ _ (hS2) ?_
  clear hK K
  generalize (((wc.setCell ⟨w.heap.size + 1 + 1, 0, none⟩ (.int .i64 mf.rows)).setCell ⟨w.heap.size + 1 + 1, 1, none⟩ (.int .i64 mf.cols)).setCell ⟨w.heap.size + 1 + 1, 2, none⟩ (.slice fa fn fc)) = wd at *
  refine wpSegs_nil ?_
  go_wp2
  exact ret_cells3 T_mat T_mat T_mat rfl rfl rfl rfl rfl q0 q1 q2 ⟨_, _, _, rfl, x1.oms (by omega), x2.oms (by omega), x3.oms (by omega), hCd, hKd⟩
 | true =>
  have Hmb := Lib.hid hmb
  obtain ⟨R, C, hr, hc, hR, hC24, hl, hnum⟩ := isMatB_shape hmb
  have Hc := Lib.hid hc
  clear hmb hr hc
  have hs4 := hltR
  go_wp2_with fail
  refine (l1Once_c g 2 _ hC (by omega)).mono ?_
  rintro e w5 ⟨q1, rfl, hC5, hK5⟩
  replace b0 := b0.keep hK5 (by omega)
  replace b1 := b1.keep hK5 (by omega)
  replace b2 := b2.keep hK5 (by omega)
  replace bR := bR.keep hK5 (by omega)
  replace pR := pR.keep2 hK5 (fun q hq => by have := pR.low q hq; have := hRlt q hq; show q ≠ _; omega)
  replace hKp := hKp.thru hK5 (fun q hq (h : q ≠ g) => by show q ≠ _; omega)
  replace hltR := bR.lt
  clear e0 e1 e2
  obtain ⟨⟨e0, e1, e2⟩, -⟩ := bR.three
  clear hC
  have hC := hC5
  cases q1 with
  | true =>
   go_wp2_with fail
   rw [Hc.out]
   refine (sIdentity_c C _ hC24).mono ?_
   rintro e w6 ⟨fa, rfl, oF, fF, hG6⟩
   have hs6 := hG6.size
   have hs5 := hK5.size
   clear hC5 hK5
   replace b0 := b0.grow hG6
   replace b1 := b1.grow hG6
   replace b2 := b2.grow hG6
   replace bR := bR.grow hG6
   replace pR := pR.grow hG6
   replace hKp := hKp.trans hG6.any
   replace hC := hC.grow hG6
   replace hltR := bR.lt
   clear e0 e1 e2
   obtain ⟨⟨e0, e1, e2⟩, -⟩ := bR.three
   obtain ⟨w7, hw7⟩ : ∃ w7, w7 = w6.alloc (.cells #[.int .i64 (C : Int), .int .i64 (C : Int), .slice fa (C * C) (C * C)] 26) := ⟨_, rfl⟩
   have hG7 : Grow w6 w7 := by rw [hw7]; exact (Grow.refl w6).alloc _ _
   have bF : Blk w7 w6.heap.size #[.int .i64 (C : Int), .int .i64 (C : Int), .slice fa (C * C) (C * C)] 26 := by rw [hw7]; exact Blk.new _ _ _
   have oF7 := oF.grow hG7
   go_wp2_with fail
   rw [← hw7]
   clear hw7 hG6 oF
   replace b0 := b0.grow hG7
   replace b1 := b1.grow hG7
   replace b2 := b2.grow hG7
   replace bR := bR.grow hG7
   replace pR := pR.grow hG7
   replace hKp := hKp.trans hG7.any
   replace hC := hC.grow hG7
   replace hltR := bR.lt
   clear e0 e1 e2
   obtain ⟨⟨e0, e1, e2⟩, -⟩ := bR.three
   have nF : w6.heap.size ≠ g := by omega
   have hltF := bF.lt
   have hg3 : g < w7.heap.size := by omega
   have h27 := hltR
   refine wp_region_par (S := (fun w' => Keep (fun q => q ≠ g ∧ q ≠ w6.heap.size) w7 w' ∧ Cur w' g)) (T := fun q => q ≠ g) [1] [0, 2, 4] [3, 5, 6] [([7], some 8)] P_mixed (by kernel_rfl) (fun _ _ _ _ _ h => h) ⟨(Keep.refl _ _).drew, hC.grow (Grow.refl _).drew⟩ ?_
   show wpQuiet _ _ _ _ [_] _
   repeat (first | go_big_quiet_skip | (go_big_quiet_want; first | (go_big_quiet_op; refine ⟨_, (fun _ _ _ => rfl), ?_⟩; go_big_quiet_on) | (go_big_quiet_op; first | go_big_quiet_on | (refine ⟨_, (fun _ _ => rfl), ?_⟩; go_big_quiet_on))))
   refine wpQuiet_nil ?_
   refine ⟨by kernel_rfl, ScPost w7.heap.size (.agg #[.int .i64 (C : Int), .int .i64 (C : Int), .slice fa (C * C) (C * C)]), fun _ _ => none, ScPost.stays hg3, (fun _ _ _ _ _ h => by cases h), (fun _ _ _ => rfl), ?_, ?_, ?_⟩
   ·intro i hi o ho b w8 hGw hSw hdep hfr K hK
    obtain ⟨hS8, hC8⟩ := hSw
    have hGx : Keep (fun q => q ≠ g) w7 w8 := ((Grow.refl w7).drew.any).trans hGw
    simp only [List.mem_cons, List.not_mem_nil, or_false] at hi
    rcases hi with rfl | rfl | rfl
    ·obtain rfl := Option.some.inj (show some _ = some _ from ho)
     exact par_load (x := .tmp 6) T_mat rfl (hfr 6 (by decide)) (bF.keep hGx nF) (hK _ w8 (Keep.refl _ _) ⟨hS8, hC8⟩ rfl (fun _ h => by cases h))
    ·obtain rfl := Option.some.inj (show some _ = some _ from ho)
     refine par_call2 (x := .tmp 27) (y := .const (.int .i64 5)) rfl Tryz.func34 rfl rfl (hfr 27 (by decide)) rfl ?_
     refine (l1Below_c g 5 _ hC8 (by omega)).mono ?_
     rintro e w9 ⟨y, hy, rfl, hC9, hK9⟩
     exact ⟨_, rfl, hK _ w9 hK9 ⟨hS8.trans (hK9.mono fun q _ hq => hq.1), hC9⟩ ⟨y, hy, rfl⟩ (fun _ h => by cases h)⟩
    ·obtain rfl := Option.some.inj (show some _ = some _ from ho)
     have d0 : b.tmps.getD 26 undef = _ := hdep 0 (by decide) ⟨⟨0, .data⟩, by simp, rfl, rfl⟩ 26 rfl
     obtain ⟨z, hz1, hz2, d3⟩ : ∃ z : Int, -5 ≤ z ∧ z ≤ 5 ∧ b.tmps.getD 29 undef = .int .i64 z := hdep 3 (by decide) ⟨⟨3, .data⟩, by simp, rfl, rfl⟩ 29 rfl
     refine par_call2 (x := .tmp 26) (y := .tmp 29) rfl Tryz.func46 rfl rfl d0 d3 ?_
     have o8 := oF7.keep hGx (fun q hq _ => by have := fF q hq; omega)
     refine (sScale_c z (o8.rdI (S := fun _ => True) (fun _ _ => trivial) (num_rng (idL_num C))) (idL_len C) (idL_num C) hC24 hC24 ⟨hz1, hz2⟩).mono ?_
     rintro e w9 ⟨r, b', rfl, M, hM, hbM, hG9⟩
     have hs8 := hGx.size
     obtain ⟨a', n', c', rfl, hx⟩ := OMx.of (B := w7.heap.size) hM (fun q hq => by omega) (by omega)
     exact ⟨_, rfl, hK _ w9 hG9.any ⟨hS8.trans hG9.any, hC8.grow hG9⟩ ⟨_, b', rfl, hx.oms (Nat.le_refl _)⟩ (fun _ h => by cases h)⟩
   ·intro i hi o ho b w8 hGw hSw hdep hfr
    simp only [List.mem_cons, List.not_mem_nil, or_false] at hi
    rcases hi with rfl | rfl | rfl
    ·obtain rfl := Option.some.inj (show some _ = some _ from ho)
     obtain ⟨y, hy, d2⟩ : ∃ y : Nat, (y < 5 ∨ y = 0) ∧ b.tmps.getD 28 undef = .int .i64 (y : Int) := hdep 2 (by decide) ⟨⟨2, .data⟩, by simp, rfl, rfl⟩ 28 rfl
     refine ⟨.int .i64 (IntKind.i64.wrap ((y : Int) - 1)), fun w' _ => free_sub1 (x := .tmp 28) rfl d2 w', (y : Int) - 1, by omega, by omega, by rw [IntWalk.i64_in _ (by omega)]⟩
    ·obtain rfl := Option.some.inj (show some _ = some _ from ho)
     have d4 : ∃ r b', b.tmps.getD 30 undef = .tuple #[r, .bool b'] ∧ OMs w7.heap.size w8 r := hdep 4 (by decide) ⟨⟨4, .data⟩, by simp, rfl, rfl⟩ 30 rfl
     exact ⟨b.tmps.getD 30 undef, fun _ _ => rfl, d4⟩
    ·obtain rfl := Option.some.inj (show some _ = some _ from ho)
     obtain ⟨r, b', e5, hr5⟩ : ∃ r b', b.tmps.getD 25 undef = .tuple #[r, .bool b'] ∧ OMs w7.heap.size w8 r := hdep 5 (by decide) ⟨⟨5, .data⟩, by simp, rfl, rfl⟩ 25 rfl
     exact ⟨r, fun w' _ => free_extract (x := .tmp 25) rfl e5 rfl w', hr5⟩
   ·intro vs w8 hGw hSw hP _
    obtain ⟨hS8, hC8⟩ := hSw
    have hKd : Keep (fun q => q ≠ g) w7 w8 := ((Grow.refl w7).drew.any).trans hGw
    obtain ⟨y, -, i2⟩ : ∃ y : Nat, (y < 5 ∨ y = 0) ∧ vs 2 = .int .i64 (y : Int) := hP 2 (by decide)
    have i0 : vs 0 = _ := hP 0 (by decide)
    obtain ⟨z, -, -, i3⟩ : ∃ z : Int, -5 ≤ z ∧ z ≤ 5 ∧ vs 3 = .int .i64 z := hP 3 (by decide)
    obtain ⟨r4, b4, i4, -⟩ : ∃ r b', vs 4 = .tuple #[r, .bool b'] ∧ OMs w7.heap.size w8 r := hP 4 (by decide)
    obtain ⟨r5, b5, i5, -⟩ : ∃ r b', vs 5 = .tuple #[r, .bool b'] ∧ OMs w7.heap.size w8 r := hP 5 (by decide)
    obtain ⟨mf, pa, pn, pc, i6, pF⟩ : OMs w7.heap.size w8 (vs 6) := hP 6 (by decide)
    apply fill_to
    ·show _ = ([some 26, some 28, some 30, some 29, some 25, some 31] : List (Option Tmp))
     kernel_rfl
    simp only [fillD, List.cons_append, List.nil_append, List.map_cons, List.map_nil, List.zip_cons_cons, List.zip_nil_right, Act.put, List.setIfInBounds_toArray, List.set_cons_succ, List.set_cons_zero]
    refine ⟨?_⟩
    rw [i0, i2, i3, i4, i5, i6]
    show wpQuiet _ _ _ _ [_] _
    try (conv => arg 6; simp only [Act.put, List.setIfInBounds_toArray, List.set_cons_succ, List.set_cons_zero])
    repeat (first | go_big_quiet_skip | (go_big_quiet_want; first | (go_big_quiet_op; refine ⟨_, (fun _ _ _ => rfl), ?_⟩; go_big_quiet_on) | (go_big_quiet_op; first | go_big_quiet_on | (refine ⟨_, (fun _ _ => rfl), ?_⟩; go_big_quiet_on))))
    refine wpQuiet_nil ?_
    refine seg_go rfl (fun K hK => ?_)
    have bF8 := bF.keep hKd nF
    replace b0 := b0.keep hKd (by omega)
    replace b1 := b1.keep hKd (by omega)
    replace b2 := b2.keep hKd (by omega)
    replace bR := bR.keep hKd (by omega)
    replace pR := pR.keep2 hKd (fun q hq => by have := pR.low q hq; have := hRlt q hq; show q ≠ _; omega)
    replace hKp := hKp.thru hKd (fun q hq (h : q ≠ g) => by show q ≠ _; omega)
    replace hltR := bR.lt
    clear e0 e1 e2
    obtain ⟨⟨e0, e1, e2⟩, -⟩ := bR.three
    obtain ⟨⟨u0, u1, u2⟩, f0, f1, f2⟩ := bF8.three
    have hlF8 := bF8.lt
    have hs8 := hKd.size
    go_wp2_with fail
    have hKf : Keep (fun q => q ≠ w6.heap.size) w8 (((w8.setCell ⟨w6.heap.size, 0, none⟩ (.int .i64 mf.rows)).setCell ⟨w6.heap.size, 1, none⟩ (.int .i64 mf.cols)).setCell ⟨w6.heap.size, 2, none⟩ (.slice pa pn pc)) :=
     (((Keep.refl _ w8).setCell (fun _ e => e rfl) _).setCell (fun _ e => e rfl) _).setCell (fun _ e => e rfl) _
    have bF9 := ((bF8.set 0 (.int .i64 mf.rows)).set 1 (.int .i64 mf.cols)).set 2 (.slice pa pn pc)
    have hC9 := hC8.keep hKf (fun q hq => by omega)
    have hs9 := hKf.size
    refine hK _ _ ⟨hS8.trans (hKf.mono fun q _ h => h.2), hC9⟩ ?_
    generalize (((w8.setCell ⟨w6.heap.size, 0, none⟩ (.int .i64 mf.rows)).setCell ⟨w6.heap.size, 1, none⟩ (.int .i64 mf.cols)).setCell ⟨w6.heap.size, 2, none⟩ (.slice pa pn pc)) = w9 at *
    replace b0 := b0.keep hKf (by omega)
    replace b1 := b1.keep hKf (by omega)
    replace b2 := b2.keep hKf (by omega)
    replace bR := bR.keep hKf (by omega)
    replace pR := pR.keep2 hKf (fun q hq => by have := pR.low q hq; have := hRlt q hq; show q ≠ _; omega)
    replace hKp := hKp.thru hKf (fun q hq (h : q ≠ g) => by show q ≠ _; omega)
    replace hltR := bR.lt
    clear e0 e1 e2
    obtain ⟨⟨e0, e1, e2⟩, -⟩ := bR.three
    clear u0 u1 u2 f0 f1 f2 hK K hP hS8 hGw hKd
    refine wpSegs_nil ?_
    obtain ⟨wx, hwx⟩ : ∃ wx, wx = w9.alloc (.cells #[.int .i64 m.rows, .int .i64 m.cols, .slice ra rn rc] 26) := ⟨_, rfl⟩
    have hGx : Grow w9 wx := by rw [hwx]; exact (Grow.refl w9).alloc _ _
    have bS : Blk wx w9.heap.size #[.int .i64 m.rows, .int .i64 m.cols, .slice ra rn rc] 26 := by rw [hwx]; exact Blk.new _ _ _
    clear hC hC8
    have hC := hC9
    go_wp2_with fail
    rw [← hwx]
    clear hwx hC9
    replace b0 := b0.grow hGx
    replace b1 := b1.grow hGx
    replace b2 := b2.grow hGx
    replace bR := bR.grow hGx
    replace pR := pR.grow hGx
    replace hKp := hKp.trans hGx.any
    replace hC := hC.grow hGx
    replace hltR := bR.lt
    clear e0 e1 e2
    obtain ⟨⟨e0, e1, e2⟩, -⟩ := bR.three
    have bF := bF9.grow hGx
    have hFlt : ∀ q, blk pa = some q → q < w9.heap.size := fun q hq => by have := pF.own.lt hq; omega
    replace pF := ((pF.keep2 hKf (fun q hq => by have := pF.low q hq; omega)).grow hGx)
    clear bF8 bF9
    have h9 := hltR
    refine (l1Once_c g 2 _ hC (by omega)).mono ?_
    rintro e wy ⟨q2, rfl, hCy, hKy⟩
    replace b0 := b0.keep hKy (by omega)
    replace b1 := b1.keep hKy (by omega)
    replace b2 := b2.keep hKy (by omega)
    replace bR := bR.keep hKy (by omega)
    replace pR := pR.keep2 hKy (fun q hq => by have := pR.low q hq; have := hRlt q hq; show q ≠ _; omega)
    replace hKp := hKp.thru hKy (fun q hq (h : q ≠ g) => by show q ≠ _; omega)
    replace hltR := bR.lt
    clear e0 e1 e2
    obtain ⟨⟨e0, e1, e2⟩, -⟩ := bR.three
    clear hC
    have hC := hCy
    replace bS := bS.keep hKy (by omega)
    replace bF := bF.keep hKy (by omega)
    replace pF := pF.keep hKy (fun q hq => by omega)
    clear hCy hKy hGx
    cases q2 with
    | false =>
     go_wp2_with fail
     have nR : w2.heap.size ≠ g ∧ w2.heap.size ≠ w.heap.size ∧ w2.heap.size ≠ w.heap.size + 1 ∧ w2.heap.size ≠ w.heap.size + 1 + 1 := ⟨by omega, by omega, by omega, by omega⟩
     have nS : w9.heap.size ≠ g ∧ w9.heap.size ≠ w.heap.size ∧ w9.heap.size ≠ w.heap.size + 1 ∧ w9.heap.size ≠ w.heap.size + 1 + 1 := ⟨by omega, by omega, by omega, by omega⟩
     have nF : w6.heap.size ≠ g ∧ w6.heap.size ≠ w.heap.size ∧ w6.heap.size ≠ w.heap.size + 1 ∧ w6.heap.size ≠ w.heap.size + 1 + 1 := ⟨by omega, by omega, by omega, by omega⟩
     refine wp_region_segs (S := (Keep (fun q => q ≠ g ∧ q ≠ w.heap.size ∧ q ≠ w.heap.size + 1 ∧ q ≠ w.heap.size + 1 + 1) wy)) [([0, 1, 2], some 3), ([], some 4), ([], some 5)] P_mixed (by kernel_rfl) (fun _ _ _ _ _ h => h) (Keep.refl _ _).drew ?_
     show wpQuiet _ _ _ _ [_, _, _] _
     repeat (first | go_big_quiet_skip | (go_big_quiet_want; first | (apply quiet_load3 T_mat; rfl; rfl; exact (fun w' hG => bR.keep hG nR); go_big_quiet_on; simp only [Act.put, List.setIfInBounds_toArray, List.set_cons_succ, List.set_cons_zero]) | (apply quiet_load3 T_mat; rfl; rfl; exact (fun w' hG => bS.keep hG nS); go_big_quiet_on; simp only [Act.put, List.setIfInBounds_toArray, List.set_cons_succ, List.set_cons_zero]) | (apply quiet_load3 T_mat; rfl; rfl; exact (fun w' hG => bF.keep hG nF); go_big_quiet_on; simp only [Act.put, List.setIfInBounds_toArray, List.set_cons_succ, List.set_cons_zero]) | (go_big_quiet_op; first | go_big_quiet_on | (refine ⟨_, (fun _ _ => rfl), ?_⟩; go_big_quiet_on))))
     refine wpQuiet_nil ?_
     obtain ⟨wa, hwa⟩ : ∃ wa, wa = wy.drew := ⟨_, rfl⟩
     have hGa : Grow wy wa := by rw [hwa]; exact (Grow.refl _).drew
     rw [← hwa]
     clear hwa
     have r0 := b0.grow hGa
     have r1 := b1.grow hGa
     have r2 := b2.grow hGa
     have p1 := pR.grow hGa
     have p2 := pR.grow hGa
     have p3 := pF.grow hGa
     have hCa := hC.grow hGa
     have hKw := hKp.trans hGa.any
     have hS : Keep (fun q => q ≠ g ∧ q ≠ w.heap.size ∧ q ≠ w.heap.size + 1 ∧ q ≠ w.heap.size + 1 + 1) wy wa := hGa.any
     clear hC b0 b1 b2 pR bS bF pF bR e0 e1 e2
     refine seg_go rfl (fun K hK => ?_)
     obtain ⟨⟨u0, u1, u2⟩, f0, f1, f2⟩ := r0.three
     have hl0 := r0.lt
     go_wp2_with fail
     have k0 : Keep (fun q => q ≠ w.heap.size) wa (((wa.setCell ⟨w.heap.size, 0, none⟩ (.int .i64 m.rows)).setCell ⟨w.heap.size, 1, none⟩ (.int .i64 m.cols)).setCell ⟨w.heap.size, 2, none⟩ (.slice ra rn rc)) :=
      (((Keep.refl _ wa).setCell (fun _ e => e rfl) _).setCell (fun _ e => e rfl) _).setCell (fun _ e => e rfl) _
     have s0 := ((r0.set 0 (.int .i64 m.rows)).set 1 (.int .i64 m.cols)).set 2 (.slice ra rn rc)
     have s1 := r1.keep k0 (by omega)
     have s2 := r2.keep k0 (by omega)
     have z1 := p1.keep k0 (fun q hq => by omega)
     have z2 := p2.keep k0 (fun q hq => by omega)
     have z3 := p3.keep k0 (fun q hq => by omega)
     have hCb := hCa.keep k0 (fun q hq => by omega)
     have hKb := hKw.thru k0 (fun q hq _ => by omega)
     have hS0 := hS.trans (k0.mono fun q _ hb => hb.2.1)
     refine hK _ _ (hS0) ?_
     clear hK K
     generalize (((wa.setCell ⟨w.heap.size, 0, none⟩ (.int .i64 m.rows)).setCell ⟨w.heap.size, 1, none⟩ (.int .i64 m.cols)).setCell ⟨w.heap.size, 2, none⟩ (.slice ra rn rc)) = wb at *
     clear u0 u1 u2 f0 f1 f2 r0 r1 r2 p1 p2 p3 hl0
     show wpQuiet _ _ _ _ [] _
     try (conv => arg 6; simp only [Act.put, List.setIfInBounds_toArray, List.set_cons_succ, List.set_cons_zero])
     refine wpQuiet_nil ?_
     refine seg_go rfl (fun K hK => ?_)
     obtain ⟨⟨u0, u1, u2⟩, f0, f1, f2⟩ := s1.three
     have hl0 := s1.lt
     go_wp2_with fail
     have k1 : Keep (fun q => q ≠ w.heap.size + 1) wb (((wb.setCell ⟨w.heap.size + 1, 0, none⟩ (.int .i64 m.rows)).setCell ⟨w.heap.size + 1, 1, none⟩ (.int .i64 m.cols)).setCell ⟨w.heap.size + 1, 2, none⟩ (.slice ra rn rc)) :=
      (((Keep.refl _ wb).setCell (fun _ e => e rfl) _).setCell (fun _ e => e rfl) _).setCell (fun _ e => e rfl) _
     have t1 := ((s1.set 0 (.int .i64 m.rows)).set 1 (.int .i64 m.cols)).set 2 (.slice ra rn rc)
     have t0 := s0.keep k1 (by omega)
     have t2 := s2.keep k1 (by omega)
     have y1 := z1.keep k1 (fun q hq => by omega)
     have y2 := z2.keep k1 (fun q hq => by omega)
     have y3 := z3.keep k1 (fun q hq => by omega)
     have hCc := hCb.keep k1 (fun q hq => by omega)
     have hKc := hKb.thru k1 (fun q hq _ => by omega)
     have hS1 := hS0.trans (k1.mono fun q _ hb => hb.2.2.1)
     refine hK _ _ (hS1) ?_
     clear hK K
     generalize (((wb.setCell ⟨w.heap.size + 1, 0, none⟩ (.int .i64 m.rows)).setCell ⟨w.heap.size + 1, 1, none⟩ (.int .i64 m.cols)).setCell ⟨w.heap.size + 1, 2, none⟩ (.slice ra rn rc)) = wc at *
     clear u0 u1 u2 f0 f1 f2 s0 s1 s2 z1 z2 z3 hl0
     show wpQuiet _ _ _ _ [] _
     try (conv => arg 6; simp only [Act.put, List.setIfInBounds_toArray, List.set_cons_succ, List.set_cons_zero])
     refine wpQuiet_nil ?_
     refine seg_go rfl (fun K hK => ?_)
     obtain ⟨⟨u0, u1, u2⟩, f0, f1, f2⟩ := t2.three
     have hl0 := t2.lt
     go_wp2_with fail
     have k2 : Keep (fun q => q ≠ w.heap.size + 1 + 1) wc (((wc.setCell ⟨w.heap.size + 1 + 1, 0, none⟩ (.int .i64 mf.rows)).setCell ⟨w.heap.size + 1 + 1, 1, none⟩ (.int .i64 mf.cols)).setCell ⟨w.heap.size + 1 + 1, 2, none⟩ (.slice pa pn pc)) :=
      (((Keep.refl _ wc).setCell (fun _ e => e rfl) _).setCell (fun _ e => e rfl) _).setCell (fun _ e => e rfl) _
     have q2 := ((t2.set 0 (.int .i64 mf.rows)).set 1 (.int .i64 mf.cols)).set 2 (.slice pa pn pc)
     have q0 := t0.keep k2 (by omega)
     have q1 := t1.keep k2 (by omega)
     have x1 := y1.keep k2 (fun q hq => by omega)
     have x2 := y2.keep k2 (fun q hq => by omega)
     have x3 := y3.keep k2 (fun q hq => by omega)
     have hCd := hCc.keep k2 (fun q hq => by omega)
     have hKd := hKc.thru k2 (fun q hq _ => by omega)
     have hS2 := hS1.trans (k2.mono fun q _ hb => hb.2.2.2)
     refine hK _ _ (hS2) ?_
     clear hK K
     generalize (((wc.setCell ⟨w.heap.size + 1 + 1, 0, none⟩ (.int .i64 mf.rows)).setCell ⟨w.heap.size + 1 + 1, 1, none⟩ (.int .i64 mf.cols)).setCell ⟨w.heap.size + 1 + 1, 2, none⟩ (.slice pa pn pc)) = wd at *
     refine wpSegs_nil ?_
     go_wp2
     exact ret_cells3 T_mat T_mat T_mat rfl rfl rfl rfl rfl q0 q1 q2 ⟨_, _, _, rfl, x1.oms (by omega), x2.oms (by omega), x3.oms (by omega), hCd, hKd⟩
    | true =>
     by_cases h3 : m.rows < 3
     ·go_wp2_with fail
      have nR2 : w2.heap.size ≠ g ∧ w2.heap.size ≠ w9.heap.size := ⟨by omega, by omega⟩
      refine wp_region_segs (S := (Keep (fun q => q ≠ g ∧ q ≠ w9.heap.size) wy)) [([0, 1, 2, 3], some 4), ([], some 5), ([6, 7, 8], some 9)] P_mixed (by kernel_rfl) (fun _ _ _ _ _ h => h) (Keep.refl _ _).drew ?_
      show wpQuiet _ _ _ _ [_, _, _, _] _
      repeat (first | go_big_quiet_skip | (go_big_quiet_want; first | (apply quiet_load3 T_mat; rfl; rfl; exact (fun w' hG => bR.keep hG nR2); go_big_quiet_on; simp only [Act.put, List.setIfInBounds_toArray, List.set_cons_succ, List.set_cons_zero]) | (apply quiet_load CT_int; rfl; rfl; exact (fun w' hG => hG.cell nR2 e1); go_big_quiet_on; simp only [Act.put, List.setIfInBounds_toArray, List.set_cons_succ, List.set_cons_zero]) | (go_big_quiet_op; first | go_big_quiet_on | (refine ⟨_, (fun _ _ => rfl), ?_⟩; go_big_quiet_on))))
      refine wpQuiet_nil ?_
      refine seg_go rfl (fun K hK => ?_)
      go_wp2_with fail
      have hszy : w.heap.size + 3 ≤ wy.drew.heap.size := by show _ ≤ wy.heap.size; omega
      refine (l3DrawI_c (w.heap.size + 3) g 1 C 4 _ Hc.out _ (hC.grow (Grow.refl _).drew) (by omega) (by omega) (by omega) hszy).mono ?_
      rintro e wz ⟨da, dn, dc, md, rfl, pD, -, -, -, hCz, hKz⟩
      have hKe : Keep (fun q => q ≠ g) wy wz := ((Grow.refl wy).drew.any).trans hKz
      replace b0 := b0.keep hKe (by omega)
      replace b1 := b1.keep hKe (by omega)
      replace b2 := b2.keep hKe (by omega)
      replace bR := bR.keep hKe (by omega)
      replace pR := pR.keep2 hKe (fun q hq => by have := pR.low q hq; have := hRlt q hq; show q ≠ _; omega)
      replace hKp := hKp.thru hKe (fun q hq (h : q ≠ g) => by show q ≠ _; omega)
      replace hltR := bR.lt
      clear e0 e1 e2
      obtain ⟨⟨e0, e1, e2⟩, -⟩ := bR.three
      clear hC
      have hC := hCz
      replace bS := bS.keep hKe (by omega)
      replace bF := bF.keep hKe (by omega)
      replace pF := pF.keep hKe (fun q hq => by omega)
      clear hCz hKz
      go_wp2_with fail
      refine hK _ _ ((hKe.mono fun q _ h => h.1)) ?_
      clear hK K
      show wpQuiet _ _ _ _ [] _
      try (conv => arg 6; simp only [Act.put, List.setIfInBounds_toArray, List.set_cons_succ, List.set_cons_zero])
      refine wpQuiet_nil ?_
      refine seg_go rfl (fun K hK => ?_)
      go_wp2_with fail
      refine (sStackRows_c pR.vm pD.vm (by have := pR.bd; omega) (by have := pD.bd; omega)).mono ?_
      rintro e wu ⟨r, rfl, hO, hGu⟩
      have hszz := bS.lt
      obtain ⟨ta, tn, tc, rfl, pT⟩ := OMx.of (B := w9.heap.size + 1) hO (fun q hq => by have := hq.1; omega) (Nat.le_trans (isMatB_bd (stackB_mat _ _)) (by decide))
      generalize stackB m md = mt at *
      generalize stackOk m md = bt at *
      replace b0 := b0.grow hGu
      replace b1 := b1.grow hGu
      replace b2 := b2.grow hGu
      replace bR := bR.grow hGu
      replace pR := pR.grow hGu
      replace hKp := hKp.trans hGu.any
      replace hC := hC.grow hGu
      replace hltR := bR.lt
      clear e0 e1 e2
      obtain ⟨⟨e0, e1, e2⟩, -⟩ := bR.three
      replace bS := bS.grow hGu
      replace bF := bF.grow hGu
      replace pF := pF.grow hGu
      go_wp2_with fail
      have hSu := (hKe.mono fun q _ (h : q ≠ g ∧ q ≠ w9.heap.size) => h.1).trans hGu.any
      refine hK _ _ (hSu) ?_
      clear hK K
      show wpQuiet _ _ _ _ [_, _, _] _
      try (conv => arg 6; simp only [Act.put, List.setIfInBounds_toArray, List.set_cons_succ, List.set_cons_zero])
      repeat (first | go_big_quiet_skip | (go_big_quiet_want; first | (apply quiet_load3 T_mat; rfl; rfl; exact (fun w' hG => bR.keep hG nR2); go_big_quiet_on; simp only [Act.put, List.setIfInBounds_toArray, List.set_cons_succ, List.set_cons_zero]) | (apply quiet_load CT_int; rfl; rfl; exact (fun w' hG => hG.cell nR2 e1); go_big_quiet_on; simp only [Act.put, List.setIfInBounds_toArray, List.set_cons_succ, List.set_cons_zero]) | (go_big_quiet_op; first | go_big_quiet_on | (refine ⟨_, (fun _ _ => rfl), ?_⟩; go_big_quiet_on))))
      refine wpQuiet_nil ?_
      refine seg_go rfl (fun K hK => ?_)
      obtain ⟨⟨u0, u1, u2⟩, f0, f1, f2⟩ := bS.three
      have hlS := bS.lt
      go_wp2_with fail
      have hKs : Keep (fun q => q ≠ w9.heap.size) wu (((wu.setCell ⟨w9.heap.size, 0, none⟩ (.int .i64 mt.rows)).setCell ⟨w9.heap.size, 1, none⟩ (.int .i64 mt.cols)).setCell ⟨w9.heap.size, 2, none⟩ (.slice ta tn tc)) :=
       (((Keep.refl _ wu).setCell (fun _ e => e rfl) _).setCell (fun _ e => e rfl) _).setCell (fun _ e => e rfl) _
      have bS9 := ((bS.set 0 (.int .i64 mt.rows)).set 1 (.int .i64 mt.cols)).set 2 (.slice ta tn tc)
      have hC9 := hC.keep hKs (fun q hq => by omega)
      have hsu := hKs.size
      refine hK _ _ ((hSu.trans (hKs.mono fun q _ h => h.2))) ?_
      clear hK K
      generalize (((wu.setCell ⟨w9.heap.size, 0, none⟩ (.int .i64 mt.rows)).setCell ⟨w9.heap.size, 1, none⟩ (.int .i64 mt.cols)).setCell ⟨w9.heap.size, 2, none⟩ (.slice ta tn tc)) = wt at *
      replace b0 := b0.keep hKs (by omega)
      replace b1 := b1.keep hKs (by omega)
      replace b2 := b2.keep hKs (by omega)
      replace bR := bR.keep hKs (by omega)
      replace pR := pR.keep2 hKs (fun q hq => by have := pR.low q hq; have := hRlt q hq; show q ≠ _; omega)
      replace hKp := hKp.thru hKs (fun q hq (h : q ≠ g) => by show q ≠ _; omega)
      replace hltR := bR.lt
      clear e0 e1 e2
      obtain ⟨⟨e0, e1, e2⟩, -⟩ := bR.three
      clear hC bS
      have bS := bS9
      have hC := hC9
      replace bF := bF.keep hKs (by omega)
      replace pF := pF.keep2 hKs (fun q hq => by have := hFlt q hq; show q ≠ _; omega)
      replace pT := pT.keep hKs (fun q hq => by omega)
      clear u0 u1 u2 f0 f1 f2 hSu bS9 hC9
      refine wpSegs_nil ?_
      go_wp2_with fail
      have nR : w2.heap.size ≠ g ∧ w2.heap.size ≠ w.heap.size ∧ w2.heap.size ≠ w.heap.size + 1 ∧ w2.heap.size ≠ w.heap.size + 1 + 1 := ⟨by omega, by omega, by omega, by omega⟩
      have nS : w9.heap.size ≠ g ∧ w9.heap.size ≠ w.heap.size ∧ w9.heap.size ≠ w.heap.size + 1 ∧ w9.heap.size ≠ w.heap.size + 1 + 1 := ⟨by omega, by omega, by omega, by omega⟩
      have nF : w6.heap.size ≠ g ∧ w6.heap.size ≠ w.heap.size ∧ w6.heap.size ≠ w.heap.size + 1 ∧ w6.heap.size ≠ w.heap.size + 1 + 1 := ⟨by omega, by omega, by omega, by omega⟩
      refine wp_region_segs (S := (Keep (fun q => q ≠ g ∧ q ≠ w.heap.size ∧ q ≠ w.heap.size + 1 ∧ q ≠ w.heap.size + 1 + 1) wt)) [([0, 1, 2], some 3), ([], some 4), ([], some 5)] P_mixed (by kernel_rfl) (fun _ _ _ _ _ h => h) (Keep.refl _ _).drew ?_
      show wpQuiet _ _ _ _ [_, _, _] _
      repeat (first | go_big_quiet_skip | (go_big_quiet_want; first | (apply quiet_load3 T_mat; rfl; rfl; exact (fun w' hG => bR.keep hG nR); go_big_quiet_on; simp only [Act.put, List.setIfInBounds_toArray, List.set_cons_succ, List.set_cons_zero]) | (apply quiet_load3 T_mat; rfl; rfl; exact (fun w' hG => bS.keep hG nS); go_big_quiet_on; simp only [Act.put, List.setIfInBounds_toArray, List.set_cons_succ, List.set_cons_zero]) | (apply quiet_load3 T_mat; rfl; rfl; exact (fun w' hG => bF.keep hG nF); go_big_quiet_on; simp only [Act.put, List.setIfInBounds_toArray, List.set_cons_succ, List.set_cons_zero]) | (go_big_quiet_op; first | go_big_quiet_on | (refine ⟨_, (fun _ _ => rfl), ?_⟩; go_big_quiet_on))))
      refine wpQuiet_nil ?_
      obtain ⟨wa, hwa⟩ : ∃ wa, wa = wt.drew := ⟨_, rfl⟩
      have hGa : Grow wt wa := by rw [hwa]; exact (Grow.refl _).drew
      rw [← hwa]
      clear hwa
      have r0 := b0.grow hGa
      have r1 := b1.grow hGa
      have r2 := b2.grow hGa
      have p1 := pR.grow hGa
      have p2 := pT.grow hGa
      have p3 := pF.grow hGa
      have hCa := hC.grow hGa
      have hKw := hKp.trans hGa.any
      have hS : Keep (fun q => q ≠ g ∧ q ≠ w.heap.size ∧ q ≠ w.heap.size + 1 ∧ q ≠ w.heap.size + 1 + 1) wt wa := hGa.any
      clear hC b0 b1 b2 pR bS bF pF bR e0 e1 e2
      refine seg_go rfl (fun K hK => ?_)
      obtain ⟨⟨u0, u1, u2⟩, f0, f1, f2⟩ := r0.three
      have hl0 := r0.lt
      go_wp2_with fail
      have k0 : Keep (fun q => q ≠ w.heap.size) wa (((wa.setCell ⟨w.heap.size, 0, none⟩ (.int .i64 m.rows)).setCell ⟨w.heap.size, 1, none⟩ (.int .i64 m.cols)).setCell ⟨w.heap.size, 2, none⟩ (.slice ra rn rc)) :=
       (((Keep.refl _ wa).setCell (fun _ e => e rfl) _).setCell (fun _ e => e rfl) _).setCell (fun _ e => e rfl) _
      have s0 := ((r0.set 0 (.int .i64 m.rows)).set 1 (.int .i64 m.cols)).set 2 (.slice ra rn rc)
      have s1 := r1.keep k0 (by omega)
      have s2 := r2.keep k0 (by omega)
      have z1 := p1.keep k0 (fun q hq => by omega)
      have z2 := p2.keep k0 (fun q hq => by omega)
      have z3 := p3.keep k0 (fun q hq => by omega)
      have hCb := hCa.keep k0 (fun q hq => by omega)
      have hKb := hKw.thru k0 (fun q hq _ => by omega)
      have hS0 := hS.trans (k0.mono fun q _ hb => hb.2.1)
      refine hK _ _ (hS0) ?_
      clear hK K
      generalize (((wa.setCell ⟨w.heap.size, 0, none⟩ (.int .i64 m.rows)).setCell ⟨w.heap.size, 1, none⟩ (.int .i64 m.cols)).setCell ⟨w.heap.size, 2, none⟩ (.slice ra rn rc)) = wb at *
      clear u0 u1 u2 f0 f1 f2 r0 r1 r2 p1 p2 p3 hl0
      show wpQuiet _ _ _ _ [] _
      try (conv => arg 6; simp only [Act.put, List.setIfInBounds_toArray, List.set_cons_succ, List.set_cons_zero])
      refine wpQuiet_nil ?_
      refine seg_go rfl (fun K hK => ?_)
      obtain ⟨⟨u0, u1, u2⟩, f0, f1, f2⟩ := s1.three
      have hl0 := s1.lt
      go_wp2_with fail
      have k1 : Keep (fun q => q ≠ w.heap.size + 1) wb (((wb.setCell ⟨w.heap.size + 1, 0, none⟩ (.int .i64 mt.rows)).setCell ⟨w.heap.size + 1, 1, none⟩ (.int .i64 mt.cols)).setCell ⟨w.heap.size + 1, 2, none⟩ (.slice ta tn tc)) :=
       (((Keep.refl _ wb).setCell (fun _ e => e rfl) _).setCell (fun _ e => e rfl) _).setCell (fun _ e => e rfl) _
      have t1 := ((s1.set 0 (.int .i64 mt.rows)).set 1 (.int .i64 mt.cols)).set 2 (.slice ta tn tc)
      have t0 := s0.keep k1 (by omega)
      have t2 := s2.keep k1 (by omega)
      have y1 := z1.keep k1 (fun q hq => by omega)
      have y2 := z2.keep k1 (fun q hq => by omega)
      have y3 := z3.keep k1 (fun q hq => by omega)
      have hCc := hCb.keep k1 (fun q hq => by omega)
      have hKc := hKb.thru k1 (fun q hq _ => by omega)
      have hS1 := hS0.trans (k1.mono fun q _ hb => hb.2.2.1)
      refine hK _ _ (hS1) ?_
      clear hK K
      generalize (((wb.setCell ⟨w.heap.size + 1, 0, none⟩ (.int .i64 mt.rows)).setCell ⟨w.heap.size + 1, 1, none⟩ (.int .i64 mt.cols)).setCell ⟨w.heap.size + 1, 2, none⟩ (.slice ta tn tc)) = wc at *
      clear u0 u1 u2 f0 f1 f2 s0 s1 s2 z1 z2 z3 hl0
      show wpQuiet _ _ _ _ [] _
      try (conv => arg 6; simp only [Act.put, List.setIfInBounds_toArray, List.set_cons_succ, List.set_cons_zero])
      refine wpQuiet_nil ?_
      refine seg_go rfl (fun K hK => ?_)
      obtain ⟨⟨u0, u1, u2⟩, f0, f1, f2⟩ := t2.three
      have hl0 := t2.lt
      go_wp2_with fail
      have k2 : Keep (fun q => q ≠ w.heap.size + 1 + 1) wc (((wc.setCell ⟨w.heap.size + 1 + 1, 0, none⟩ (.int .i64 mf.rows)).setCell ⟨w.heap.size + 1 + 1, 1, none⟩ (.int .i64 mf.cols)).setCell ⟨w.heap.size + 1 + 1, 2, none⟩ (.slice pa pn pc)) :=
       (((Keep.refl _ wc).setCell (fun _ e => e rfl) _).setCell (fun _ e => e rfl) _).setCell (fun _ e => e rfl) _
      have q2 := ((t2.set 0 (.int .i64 mf.rows)).set 1 (.int .i64 mf.cols)).set 2 (.slice pa pn pc)
      have q0 := t0.keep k2 (by omega)
      have q1 := t1.keep k2 (by omega)
      have x1 := y1.keep k2 (fun q hq => by omega)
      have x2 := y2.keep k2 (fun q hq => by omega)
      have x3 := y3.keep k2 (fun q hq => by omega)
      have hCd := hCc.keep k2 (fun q hq => by omega)
      have hKd := hKc.thru k2 (fun q hq _ => by omega)
      have hS2 := hS1.trans (k2.mono fun q _ hb => hb.2.2.2)
      refine hK _ _ (hS2) ?_
      clear hK K
      generalize (((wc.setCell ⟨w.heap.size + 1 + 1, 0, none⟩ (.int .i64 mf.rows)).setCell ⟨w.heap.size + 1 + 1, 1, none⟩ (.int .i64 mf.cols)).setCell ⟨w.heap.size + 1 + 1, 2, none⟩ (.slice pa pn pc)) = wd at *
      refine wpSegs_nil ?_
      go_wp2
      exact ret_cells3 T_mat T_mat T_mat rfl rfl rfl rfl rfl q0 q1 q2 ⟨_, _, _, rfl, x1.oms (by omega), x2.oms (by omega), x3.oms (by omega), hCd, hKd⟩
     ·go_wp2_with fail
      have nR : w2.heap.size ≠ g ∧ w2.heap.size ≠ w.heap.size ∧ w2.heap.size ≠ w.heap.size + 1 ∧ w2.heap.size ≠ w.heap.size + 1 + 1 := ⟨by omega, by omega, by omega, by omega⟩
      have nS : w9.heap.size ≠ g ∧ w9.heap.size ≠ w.heap.size ∧ w9.heap.size ≠ w.heap.size + 1 ∧ w9.heap.size ≠ w.heap.size + 1 + 1 := ⟨by omega, by omega, by omega, by omega⟩
      have nF : w6.heap.size ≠ g ∧ w6.heap.size ≠ w.heap.size ∧ w6.heap.size ≠ w.heap.size + 1 ∧ w6.heap.size ≠ w.heap.size + 1 + 1 := ⟨by omega, by omega, by omega, by omega⟩
      refine wp_region_segs (S := (Keep (fun q => q ≠ g ∧ q ≠ w.heap.size ∧ q ≠ w.heap.size + 1 ∧ q ≠ w.heap.size + 1 + 1) wy)) [([0, 1, 2], some 3), ([], some 4), ([], some 5)] P_mixed (by kernel_rfl) (fun _ _ _ _ _ h => h) (Keep.refl _ _).drew ?_
      show wpQuiet _ _ _ _ [_, _, _] _
      repeat (first | go_big_quiet_skip | (go_big_quiet_want; first | (apply quiet_load3 T_mat; rfl; rfl; exact (fun w' hG => bR.keep hG nR); go_big_quiet_on; simp only [Act.put, List.setIfInBounds_toArray, List.set_cons_succ, List.set_cons_zero]) | (apply quiet_load3 T_mat; rfl; rfl; exact (fun w' hG => bS.keep hG nS); go_big_quiet_on; simp only [Act.put, List.setIfInBounds_toArray, List.set_cons_succ, List.set_cons_zero]) | (apply quiet_load3 T_mat; rfl; rfl; exact (fun w' hG => bF.keep hG nF); go_big_quiet_on; simp only [Act.put, List.setIfInBounds_toArray, List.set_cons_succ, List.set_cons_zero]) | (go_big_quiet_op; first | go_big_quiet_on | (refine ⟨_, (fun _ _ => rfl), ?_⟩; go_big_quiet_on))))
      refine wpQuiet_nil ?_
      obtain ⟨wa, hwa⟩ : ∃ wa, wa = wy.drew := ⟨_, rfl⟩
      have hGa : Grow wy wa := by rw [hwa]; exact (Grow.refl _).drew
      rw [← hwa]
      clear hwa
      have r0 := b0.grow hGa
      have r1 := b1.grow hGa
      have r2 := b2.grow hGa
      have p1 := pR.grow hGa
      have p2 := pR.grow hGa
      have p3 := pF.grow hGa
      have hCa := hC.grow hGa
      have hKw := hKp.trans hGa.any
      have hS : Keep (fun q => q ≠ g ∧ q ≠ w.heap.size ∧ q ≠ w.heap.size + 1 ∧ q ≠ w.heap.size + 1 + 1) wy wa := hGa.any
      clear hC b0 b1 b2 pR bS bF pF bR e0 e1 e2
      refine seg_go rfl (fun K hK => ?_)
      obtain ⟨⟨u0, u1, u2⟩, f0, f1, f2⟩ := r0.three
      have hl0 := r0.lt
      go_wp2_with fail
      have k0 : Keep (fun q => q ≠ w.heap.size) wa (((wa.setCell ⟨w.heap.size, 0, none⟩ (.int .i64 m.rows)).setCell ⟨w.heap.size, 1, none⟩ (.int .i64 m.cols)).setCell ⟨w.heap.size, 2, none⟩ (.slice ra rn rc)) :=
       (((Keep.refl _ wa).setCell (fun _ e => e rfl) _).setCell (fun _ e => e rfl) _).setCell (fun _ e => e rfl) _
      have s0 := ((r0.set 0 (.int .i64 m.rows)).set 1 (.int .i64 m.cols)).set 2 (.slice ra rn rc)
      have s1 := r1.keep k0 (by omega)
      have s2 := r2.keep k0 (by omega)
      have z1 := p1.keep k0 (fun q hq => by omega)
      have z2 := p2.keep k0 (fun q hq => by omega)
      have z3 := p3.keep k0 (fun q hq => by omega)
      have hCb := hCa.keep k0 (fun q hq => by omega)
      have hKb := hKw.thru k0 (fun q hq _ => by omega)
      have hS0 := hS.trans (k0.mono fun q _ hb => hb.2.1)
      refine hK _ _ (hS0) ?_
      clear hK K
      generalize (((wa.setCell ⟨w.heap.size, 0, none⟩ (.int .i64 m.rows)).setCell ⟨w.heap.size, 1, none⟩ (.int .i64 m.cols)).setCell ⟨w.heap.size, 2, none⟩ (.slice ra rn rc)) = wb at *
      clear u0 u1 u2 f0 f1 f2 r0 r1 r2 p1 p2 p3 hl0
      show wpQuiet _ _ _ _ [] _
      try (conv => arg 6; simp only [Act.put, List.setIfInBounds_toArray, List.set_cons_succ, List.set_cons_zero])
      refine wpQuiet_nil ?_
      refine seg_go rfl (fun K hK => ?_)
      obtain ⟨⟨u0, u1, u2⟩, f0, f1, f2⟩ := s1.three
      have hl0 := s1.lt
      go_wp2_with fail
      have k1 : Keep (fun q => q ≠ w.heap.size + 1) wb (((wb.setCell ⟨w.heap.size + 1, 0, none⟩ (.int .i64 m.rows)).setCell ⟨w.heap.size + 1, 1, none⟩ (.int .i64 m.cols)).setCell ⟨w.heap.size + 1, 2, none⟩ (.slice ra rn rc)) :=
       (((Keep.refl _ wb).setCell (fun _ e => e rfl) _).setCell (fun _ e => e rfl) _).setCell (fun _ e => e rfl) _
      have t1 := ((s1.set 0 (.int .i64 m.rows)).set 1 (.int .i64 m.cols)).set 2 (.slice ra rn rc)
      have t0 := s0.keep k1 (by omega)
      have t2 := s2.keep k1 (by omega)
      have y1 := z1.keep k1 (fun q hq => by omega)
      have y2 := z2.keep k1 (fun q hq => by omega)
      have y3 := z3.keep k1 (fun q hq => by omega)
      have hCc := hCb.keep k1 (fun q hq => by omega)
      have hKc := hKb.thru k1 (fun q hq _ => by omega)
      have hS1 := hS0.trans (k1.mono fun q _ hb => hb.2.2.1)
      refine hK _ _ (hS1) ?_
      clear hK K
      generalize (((wb.setCell ⟨w.heap.size + 1, 0, none⟩ (.int .i64 m.rows)).setCell ⟨w.heap.size + 1, 1, none⟩ (.int .i64 m.cols)).setCell ⟨w.heap.size + 1, 2, none⟩ (.slice ra rn rc)) = wc at *
      clear u0 u1 u2 f0 f1 f2 s0 s1 s2 z1 z2 z3 hl0
      show wpQuiet _ _ _ _ [] _
      try (conv => arg 6; simp only [Act.put, List.setIfInBounds_toArray, List.set_cons_succ, List.set_cons_zero])
      refine wpQuiet_nil ?_
      refine seg_go rfl (fun K hK => ?_)
      obtain ⟨⟨u0, u1, u2⟩, f0, f1, f2⟩ := t2.three
      have hl0 := t2.lt
      go_wp2_with fail
      have k2 : Keep (fun q => q ≠ w.heap.size + 1 + 1) wc (((wc.setCell ⟨w.heap.size + 1 + 1, 0, none⟩ (.int .i64 mf.rows)).setCell ⟨w.heap.size + 1 + 1, 1, none⟩ (.int .i64 mf.cols)).setCell ⟨w.heap.size + 1 + 1, 2, none⟩ (.slice pa pn pc)) :=
       (((Keep.refl _ wc).setCell (fun _ e => e rfl) _).setCell (fun _ e => e rfl) _).setCell (fun _ e => e rfl) _
      have q2 := ((t2.set 0 (.int .i64 mf.rows)).set 1 (.int .i64 mf.cols)).set 2 (.slice pa pn pc)
      have q0 := t0.keep k2 (by omega)
      have q1 := t1.keep k2 (by omega)
      have x1 := y1.keep k2 (fun q hq => by omega)
      have x2 := y2.keep k2 (fun q hq => by omega)
      have x3 := y3.keep k2 (fun q hq => by omega)
      have hCd := hCc.keep k2 (fun q hq => by omega)
      have hKd := hKc.thru k2 (fun q hq _ => by omega)
      have hS2 := hS1.trans (k2.mono fun q _ hb => hb.2.2.2)
      refine hK _ _ (hS2) ?_
      clear hK K
      generalize (((wc.setCell ⟨w.heap.size + 1 + 1, 0, none⟩ (.int .i64 mf.rows)).setCell ⟨w.heap.size + 1 + 1, 1, none⟩ (.int .i64 mf.cols)).setCell ⟨w.heap.size + 1 + 1, 2, none⟩ (.slice pa pn pc)) = wd at *
      refine wpSegs_nil ?_
      go_wp2
      exact ret_cells3 T_mat T_mat T_mat rfl rfl rfl rfl rfl q0 q1 q2 ⟨_, _, _, rfl, x1.oms (by omega), x2.oms (by omega), x3.oms (by omega), hCd, hKd⟩
  | false =>
   go_wp2_with fail
   refine (sIsMatrix_c pR.vm (by have := pR.bd; omega)).mono ?_
   rintro e w6 ⟨rfl, hG6⟩
   rw [Hmb.out]
   have hs5 := hK5.size
   clear hC5 hK5
   replace b0 := b0.grow hG6
   replace b1 := b1.grow hG6
   replace b2 := b2.grow hG6
   replace bR := bR.grow hG6
   replace pR := pR.grow hG6
   replace hKp := hKp.trans hG6.any
   replace hC := hC.grow hG6
   replace hltR := bR.lt
   clear e0 e1 e2
   obtain ⟨⟨e0, e1, e2⟩, -⟩ := bR.three
   have hs6 := hG6.size
   clear hG6
   go_wp2_with fail
   refine (l1Once_c g 2 _ hC (by omega)).mono ?_
   rintro e wx ⟨q2, rfl, hC7, hK7⟩
   replace b0 := b0.keep hK7 (by omega)
   replace b1 := b1.keep hK7 (by omega)
   replace b2 := b2.keep hK7 (by omega)
   replace bR := bR.keep hK7 (by omega)
   replace pR := pR.keep2 hK7 (fun q hq => by have := pR.low q hq; have := hRlt q hq; show q ≠ _; omega)
   replace hKp := hKp.thru hK7 (fun q hq (h : q ≠ g) => by show q ≠ _; omega)
   replace hltR := bR.lt
   clear e0 e1 e2
   obtain ⟨⟨e0, e1, e2⟩, -⟩ := bR.three
   clear hC
   have hC := hC7
   have hs7 := hK7.size
   clear hC7 hK7
   cases q2 with
   | false =>
    go_wp2_with fail
    refine (relV_c (w.heap.size + 3) g _ hC (by omega)).mono ?_
    rintro e wv ⟨sa, sn, sc, ms, rfl, pS, hCv, hKv⟩
    have hsv := hKv.size
    replace b0 := b0.keep hKv (by omega)
    replace b1 := b1.keep hKv (by omega)
    replace b2 := b2.keep hKv (by omega)
    replace bR := bR.keep hKv (by omega)
    replace pR := pR.keep hKv (fun q hq => by omega)
    replace hKp := hKp.trans hKv
    clear hC
    go_wp2_with fail
    obtain ⟨wx, hwx⟩ : ∃ wx, wx = wv.alloc (.cells #[.int .i64 ms.rows, .int .i64 ms.cols, .slice sa sn sc] 26) := ⟨_, rfl⟩
    have hGx : Grow wv wx := by rw [hwx]; exact (Grow.refl wv).alloc _ _
    have bS : Blk wx wv.heap.size #[.int .i64 ms.rows, .int .i64 ms.cols, .slice sa sn sc] 26 := by rw [hwx]; exact Blk.new _ _ _
    have hC := hCv.grow hGx
    replace b0 := b0.grow hGx
    replace b1 := b1.grow hGx
    replace b2 := b2.grow hGx
    replace bR := bR.grow hGx
    replace pR := pR.grow hGx
    replace pS := pS.grow hGx
    replace hKp := hKp.trans hGx.any
    have hltv := bR.lt
    have hltS := bS.lt
    obtain ⟨⟨e0, e1, e2⟩, -⟩ := bR.three
    obtain ⟨⟨d0, d1, d2⟩, -⟩ := bS.three
    rw [← hwx]
    clear hwx hGx hKv hCv
    have nR : w2.heap.size ≠ g ∧ w2.heap.size ≠ w.heap.size ∧ w2.heap.size ≠ w.heap.size + 1 ∧ w2.heap.size ≠ w.heap.size + 1 + 1 := ⟨by omega, by omega, by omega, by omega⟩
    have nS : wv.heap.size ≠ g ∧ wv.heap.size ≠ w.heap.size ∧ wv.heap.size ≠ w.heap.size + 1 ∧ wv.heap.size ≠ w.heap.size + 1 + 1 := ⟨by omega, by omega, by omega, by omega⟩
    refine wp_region_segs (S := (Keep (fun q => q ≠ g ∧ q ≠ w.heap.size ∧ q ≠ w.heap.size + 1 ∧ q ≠ w.heap.size + 1 + 1) wx)) [([0, 1, 2, 3, 4, 5, 6, 7, 8, 9, 10], some 11), ([], some 12), ([], some 13), ([], some 14)] P_mixed (by kernel_rfl) (fun _ _ _ _ _ h => h) (Keep.refl _ _).drew ?_
    show wpQuiet _ _ _ _ [_, _, _, _, _, _, _, _, _, _, _] _
    repeat (first | go_big_quiet_skip | (go_big_quiet_want; first | (apply quiet_load3 T_mat; rfl; rfl; exact (fun w' hG => bR.keep hG nR); go_big_quiet_on; simp only [Act.put, List.setIfInBounds_toArray, List.set_cons_succ, List.set_cons_zero]) | (apply quiet_load3 T_mat; rfl; rfl; exact (fun w' hG => bS.keep hG nS); go_big_quiet_on; simp only [Act.put, List.setIfInBounds_toArray, List.set_cons_succ, List.set_cons_zero]) | (apply quiet_load CT_int; rfl; rfl; exact (fun w' hG => hG.cell nR e1); go_big_quiet_on; simp only [Act.put, List.setIfInBounds_toArray, List.set_cons_succ, List.set_cons_zero]) | (apply quiet_load CT_int; rfl; rfl; exact (fun w' hG => hG.cell nS d1); go_big_quiet_on; simp only [Act.put, List.setIfInBounds_toArray, List.set_cons_succ, List.set_cons_zero]) | (go_big_quiet_op; first | go_big_quiet_on | (refine ⟨_, (fun _ _ => rfl), ?_⟩; go_big_quiet_on))))
    refine wpQuiet_nil ?_
    refine seg_go rfl (fun K hK => ?_)
    obtain ⟨x, hx, ex⟩ := mm4 m.cols
    obtain ⟨y, hy, ey⟩ := mm4 ms.cols
    rw [ex, ey]
    generalize (if 4 < m.cols then (4 : Int) else m.cols) = ux
    generalize (if 4 < ms.cols then (4 : Int) else ms.cols) = uy
    clear ex ey
    go_wp2_with fail
    refine (l3DrawV_c (w.heap.size + 3) g x y 3 _ (hC.grow (Grow.refl _).drew) (by omega) (by omega) (by omega) (by show _ ≤ wx.heap.size; omega)).mono ?_
    rintro e wa ⟨fa, fn, fc, mf, rfl, p3, -, -, -, hCa, hKa⟩
    have hKd : Keep (fun q => q ≠ g) wx wa := ((Grow.refl wx).drew.any).trans hKa
    have r0 := b0.keep hKd (by omega)
    have r1 := b1.keep hKd (by omega)
    have r2 := b2.keep hKd (by omega)
    have p1 := pR.keep hKd (fun q hq => by omega)
    have p2 := pS.keep hKd (fun q hq => by omega)
    have hKw := hKp.trans hKd
    have hS : Keep (fun q => q ≠ g ∧ q ≠ w.heap.size ∧ q ≠ w.heap.size + 1 ∧ q ≠ w.heap.size + 1 + 1) wx wa := hKd.mono fun q _ h => h.1
    clear hC hKa b0 b1 b2 pR pS bR bS e0 e1 e2 d0 d1 d2
    go_wp2_with fail
    refine hK _ _ (hS) ?_
    clear hK K
    show wpQuiet _ _ _ _ [] _
    try (conv => arg 6; simp only [Act.put, List.setIfInBounds_toArray, List.set_cons_succ, List.set_cons_zero])
    refine wpQuiet_nil ?_
    refine seg_go rfl (fun K hK => ?_)
    obtain ⟨⟨u0, u1, u2⟩, f0, f1, f2⟩ := r0.three
    have hl0 := r0.lt
    go_wp2_with fail
    have k0 : Keep (fun q => q ≠ w.heap.size) wa (((wa.setCell ⟨w.heap.size, 0, none⟩ (.int .i64 m.rows)).setCell ⟨w.heap.size, 1, none⟩ (.int .i64 m.cols)).setCell ⟨w.heap.size, 2, none⟩ (.slice ra rn rc)) :=
     (((Keep.refl _ wa).setCell (fun _ e => e rfl) _).setCell (fun _ e => e rfl) _).setCell (fun _ e => e rfl) _
    have s0 := ((r0.set 0 (.int .i64 m.rows)).set 1 (.int .i64 m.cols)).set 2 (.slice ra rn rc)
    have s1 := r1.keep k0 (by omega)
    have s2 := r2.keep k0 (by omega)
    have z1 := p1.keep k0 (fun q hq => by omega)
    have z2 := p2.keep k0 (fun q hq => by omega)
    have z3 := p3.keep k0 (fun q hq => by omega)
    have hCb := hCa.keep k0 (fun q hq => by omega)
    have hKb := hKw.thru k0 (fun q hq _ => by omega)
    have hS0 := hS.trans (k0.mono fun q _ hb => hb.2.1)
    refine hK _ _ (hS0) ?_
    clear hK K
    generalize (((wa.setCell ⟨w.heap.size, 0, none⟩ (.int .i64 m.rows)).setCell ⟨w.heap.size, 1, none⟩ (.int .i64 m.cols)).setCell ⟨w.heap.size, 2, none⟩ (.slice ra rn rc)) = wb at *
    clear u0 u1 u2 f0 f1 f2 r0 r1 r2 p1 p2 p3 hl0
    show wpQuiet _ _ _ _ [] _
    try (conv => arg 6; simp only [Act.put, List.setIfInBounds_toArray, List.set_cons_succ, List.set_cons_zero])
    refine wpQuiet_nil ?_
    refine seg_go rfl (fun K hK => ?_)
    obtain ⟨⟨u0, u1, u2⟩, f0, f1, f2⟩ := s1.three
    have hl0 := s1.lt
    go_wp2_with fail
    have k1 : Keep (fun q => q ≠ w.heap.size + 1) wb (((wb.setCell ⟨w.heap.size + 1, 0, none⟩ (.int .i64 ms.rows)).setCell ⟨w.heap.size + 1, 1, none⟩ (.int .i64 ms.cols)).setCell ⟨w.heap.size + 1, 2, none⟩ (.slice sa sn sc)) :=
     (((Keep.refl _ wb).setCell (fun _ e => e rfl) _).setCell (fun _ e => e rfl) _).setCell (fun _ e => e rfl) _
    have t1 := ((s1.set 0 (.int .i64 ms.rows)).set 1 (.int .i64 ms.cols)).set 2 (.slice sa sn sc)
    have t0 := s0.keep k1 (by omega)
    have t2 := s2.keep k1 (by omega)
    have y1 := z1.keep k1 (fun q hq => by omega)
    have y2 := z2.keep k1 (fun q hq => by omega)
    have y3 := z3.keep k1 (fun q hq => by omega)
    have hCc := hCb.keep k1 (fun q hq => by omega)
    have hKc := hKb.thru k1 (fun q hq _ => by omega)
    have hS1 := hS0.trans (k1.mono fun q _ hb => hb.2.2.1)
    refine hK _ _ (hS1) ?_
    clear hK K
    generalize (((wb.setCell ⟨w.heap.size + 1, 0, none⟩ (.int .i64 ms.rows)).setCell ⟨w.heap.size + 1, 1, none⟩ (.int .i64 ms.cols)).setCell ⟨w.heap.size + 1, 2, none⟩ (.slice sa sn sc)) = wc at *
    clear u0 u1 u2 f0 f1 f2 s0 s1 s2 z1 z2 z3 hl0
    show wpQuiet _ _ _ _ [] _
    try (conv => arg 6; simp only [Act.put, List.setIfInBounds_toArray, List.set_cons_succ, List.set_cons_zero])
    refine wpQuiet_nil ?_
    refine seg_go rfl (fun K hK => ?_)
    obtain ⟨⟨u0, u1, u2⟩, f0, f1, f2⟩ := t2.three
    have hl0 := t2.lt
    go_wp2_with fail
    have k2 : Keep (fun q => q ≠ w.heap.size + 1 + 1) wc (((wc.setCell ⟨w.heap.size + 1 + 1, 0, none⟩ (.int .i64 mf.rows)).setCell ⟨w.heap.size + 1 + 1, 1, none⟩ (.int .i64 mf.cols)).setCell ⟨w.heap.size + 1 + 1, 2, none⟩ (.slice fa fn fc)) :=
     (((Keep.refl _ wc).setCell (fun _ e => e rfl) _).setCell (fun _ e => e rfl) _).setCell (fun _ e => e rfl) _
    have q2 := ((t2.set 0 (.int .i64 mf.rows)).set 1 (.int .i64 mf.cols)).set 2 (.slice fa fn fc)
    have q0 := t0.keep k2 (by omega)
    have q1 := t1.keep k2 (by omega)
    have x1 := y1.keep k2 (fun q hq => by omega)
    have x2 := y2.keep k2 (fun q hq => by omega)
    have x3 := y3.keep k2 (fun q hq => by omega)
    have hCd := hCc.keep k2 (fun q hq => by omega)
    have hKd := hKc.thru k2 (fun q hq _ => by omega)
    have hS2 := hS1.trans (k2.mono fun q _ hb => hb.2.2.2)
    refine hK _ _ (hS2) ?_
    clear hK K
    generalize (((wc.setCell ⟨w.heap.size + 1 + 1, 0, none⟩ (.int .i64 mf.rows)).setCell ⟨w.heap.size + 1 + 1, 1, none⟩ (.int .i64 mf.cols)).setCell ⟨w.heap.size + 1 + 1, 2, none⟩ (.slice fa fn fc)) = wd at *
    refine wpSegs_nil ?_
    go_wp2
    exact ret_cells3 T_mat T_mat T_mat rfl rfl rfl rfl rfl q0 q1 q2 ⟨_, _, _, rfl, x1.oms (by omega), x2.oms (by omega), x3.oms (by omega), hCd, hKd⟩
   | true =>
    have nRg : w2.heap.size ≠ g := by omega
    have hgx : g < wx.heap.size := by omega
    have h2x := hltR
    go_wp2_with fail
    refine wp_region_par (S := (fun w' => Keep (fun q => q ≠ g) wx w' ∧ Cur w' g)) (T := fun q => q ≠ g) [0, 1, 2, 3] [4, 6, 7] [5] [([], some 8)] P_mixed (by kernel_rfl) (fun _ _ _ _ _ h => h) ⟨(Keep.refl _ _).drew, hC.grow (Grow.refl _).drew⟩ ?_
    show wpQuiet _ _ _ _ [_, _, _, _] _
    repeat (first | go_big_quiet_skip | (go_big_quiet_want; first | (apply quiet_load CT_int; rfl; rfl; exact (fun w' hG => hG.1.cell nRg e1); go_big_quiet_on; simp only [Act.put, List.setIfInBounds_toArray, List.set_cons_succ, List.set_cons_zero]) | (go_big_quiet_op; refine ⟨_, (fun _ _ _ => rfl), ?_⟩; go_big_quiet_on) | (go_big_quiet_op; first | go_big_quiet_on | (refine ⟨_, (fun _ _ => rfl), ?_⟩; go_big_quiet_on))))
    refine wpQuiet_nil ?_
    refine ⟨by kernel_rfl, DrPost wx.heap.size m.cols, fun _ _ => none, DrPost.stays hgx, (fun _ _ _ _ _ h => by cases h), (fun _ _ _ => rfl), ?_, ?_, ?_⟩
    ·intro i hi o ho b w8 hGw hSw hdep hfr K hK
     obtain ⟨hS8, hC8⟩ := hSw
     have hs8 := hS8.size
     simp only [List.mem_cons, List.not_mem_nil, or_false] at hi
     rcases hi with rfl | rfl | rfl
     ·obtain rfl := Option.some.inj (show some _ = some _ from ho)
      refine par_call2 (x := .tmp 62) (y := .const (.int .i64 3)) rfl Tryz.func34 rfl rfl (hfr 62 (by decide)) rfl ?_
      refine (l1Below_c g 3 _ hC8 (by omega)).mono ?_
      rintro e w9 ⟨y, hy, rfl, hC9, hK9⟩
      exact ⟨_, rfl, hK _ w9 hK9 ⟨hS8.trans hK9, hC9⟩ ⟨y, hy, rfl⟩ (fun _ h => by cases h)⟩
     ·obtain rfl := Option.some.inj (show some _ = some _ from ho)
      obtain ⟨y, hy, d5⟩ : ∃ y : Nat, y ≤ 3 ∧ b.tmps.getD 64 undef = .int .i64 (y : Int) := hdep 5 (by decide) ⟨⟨5, .data⟩, by simp, rfl, rfl⟩ 64 rfl
      refine par_call4 (x := .tmp 59) (y := .tmp 61) (z := .tmp 64) (t := .const (.int .i64 3)) rfl Tryz.func48 rfl rfl (hfr 59 (by decide)) (hfr 61 (by decide)) d5 rfl ?_
      refine (l3DrawR_c wx.heap.size g C y 3 m.cols Hc.out _ hC8 hC24 (by omega) (by omega) hs8).mono ?_
      rintro e w9 ⟨a', n', c', md, rfl, pD, hd1, hd2, hd3, hC9, hK9⟩
      exact ⟨_, rfl, hK _ w9 hK9 ⟨hS8.trans hK9, hC9⟩ ⟨md, a', n', c', rfl, pD, by rw [hd1, Hc.out], hd3⟩ (fun _ h => by cases h)⟩
     ·obtain rfl := Option.some.inj (show some _ = some _ from ho)
      refine par_alloc (z := .agg #[.int .i64 0, .int .i64 0, .slice none 0 0]) rfl (by rfl) ?_
      have hA := (Grow.refl w8).alloc (#[.int .i64 0, .int .i64 0, .slice none 0 0]) 26
      exact hK _ _ hA.any ⟨hS8.trans hA.any, hC8.grow hA⟩ ⟨w8.heap.size, rfl, hs8, Blk.new _ _ _⟩ (fun _ h => by cases h)
    ·intro i hi o ho b w8 hGw hSw hdep hfr
     simp only [List.mem_cons, List.not_mem_nil, or_false] at hi
     subst hi
     obtain rfl := Option.some.inj (show some _ = some _ from ho)
     obtain ⟨y, hy, d4⟩ : ∃ y : Nat, (y < 3 ∨ y = 0) ∧ b.tmps.getD 63 undef = .int .i64 (y : Int) := hdep 4 (by decide) ⟨⟨4, .data⟩, by simp, rfl, rfl⟩ 63 rfl
     refine ⟨.int .i64 (IntKind.i64.wrap (1 + (y : Int))), fun w' _ => free_add1 (x := .tmp 63) rfl d4 w', 1 + y, by omega, by rw [IntWalk.i64_in _ (by omega)]; rfl⟩
    ·intro vs w8 hGw hSw hP _
     obtain ⟨hS8, hC8⟩ := hSw
     obtain ⟨y, -, i4⟩ : ∃ y : Nat, (y < 3 ∨ y = 0) ∧ vs 4 = .int .i64 (y : Int) := hP 4 (by decide)
     obtain ⟨z, -, i5⟩ : ∃ z : Nat, z ≤ 3 ∧ vs 5 = .int .i64 (z : Int) := hP 5 (by decide)
     obtain ⟨md, da, dn, dc, i6, pD, hd1, hd3⟩ : OMd wx.heap.size m.cols w8 (vs 6) := hP 6 (by decide)
     obtain ⟨gd, i7, hgd, bD⟩ : ∃ g, vs 7 = .pointer (some ⟨g, 0, none⟩) ∧ wx.heap.size ≤ g ∧ Blk w8 g #[.int .i64 0, .int .i64 0, .slice none 0 0] 26 := hP 7 (by decide)
     have hne := pD.own.ne_blkD bD (by decide)
     have hMF : mulFit m md = true := by unfold mulFit; rw [Hmb.out, hd3, hd1]; simp
     clear hd1 hd3
     apply fill_to
     ·show _ = ([some 63, some 65, some 9, some 64] : List (Option Tmp))
      kernel_rfl
     simp only [fillD, List.cons_append, List.nil_append, List.map_cons, List.map_nil, List.zip_cons_cons, List.zip_nil_right, Act.put, List.setIfInBounds_toArray, List.set_cons_succ, List.set_cons_zero]
     refine ⟨?_⟩
     rw [i4, i5, i6, i7]
     show wpQuiet _ _ _ _ [] _
     try (conv => arg 6; simp only [Act.put, List.setIfInBounds_toArray, List.set_cons_succ, List.set_cons_zero])
     refine wpQuiet_nil ?_
     refine seg_go rfl (fun K hK => ?_)
     replace b0 := b0.keep hS8 (by omega)
     replace b1 := b1.keep hS8 (by omega)
     replace b2 := b2.keep hS8 (by omega)
     replace bR := bR.keep hS8 (by omega)
     replace pR := pR.keep2 hS8 (fun q hq => by have := pR.low q hq; have := hRlt q hq; show q ≠ _; omega)
     replace hKp := hKp.thru hS8 (fun q hq (h : q ≠ g) => by show q ≠ _; omega)
     replace hltR := bR.lt
     clear e0 e1 e2
     obtain ⟨⟨e0, e1, e2⟩, -⟩ := bR.three
     obtain ⟨⟨u0, u1, u2⟩, f0, f1, f2⟩ := bD.three
     have hlD := bD.lt
     go_wp2_with fail
     have hKf : Keep (fun q => q ≠ gd) w8 (((w8.setCell ⟨gd, 0, none⟩ (.int .i64 md.rows)).setCell ⟨gd, 1, none⟩ (.int .i64 md.cols)).setCell ⟨gd, 2, none⟩ (.slice da dn dc)) :=
      (((Keep.refl _ w8).setCell (fun _ e => e rfl) _).setCell (fun _ e => e rfl) _).setCell (fun _ e => e rfl) _
     have bD9 := ((bD.set 0 (.int .i64 md.rows)).set 1 (.int .i64 md.cols)).set 2 (.slice da dn dc)
     have hC9 := hC8.keep hKf (fun q hq => by omega)
     have hs9 := hKf.size
     refine hK _ _ ⟨hS8.thru hKf (fun q hq _ => by show q ≠ _; omega), hC9⟩ ?_
     generalize (((w8.setCell ⟨gd, 0, none⟩ (.int .i64 md.rows)).setCell ⟨gd, 1, none⟩ (.int .i64 md.cols)).setCell ⟨gd, 2, none⟩ (.slice da dn dc)) = w9 at *
     replace b0 := b0.keep hKf (by omega)
     replace b1 := b1.keep hKf (by omega)
     replace b2 := b2.keep hKf (by omega)
     replace bR := bR.keep hKf (by omega)
     replace pR := pR.keep2 hKf (fun q hq => by have := pR.low q hq; have := hRlt q hq; show q ≠ _; omega)
     replace hKp := hKp.thru hKf (fun q hq (h : q ≠ g) => by show q ≠ _; omega)
     replace hltR := bR.lt
     clear e0 e1 e2
     obtain ⟨⟨e0, e1, e2⟩, -⟩ := bR.three
     replace pD := pD.keep2 hKf (fun q hq e => hne (e ▸ hq))
     clear u0 u1 u2 f0 f1 f2 hK K hP hGw hC
     refine wpSegs_nil ?_
     have hC := hC9
     have hltD := bD9.lt
     have h29 := hltR
     have nR : w2.heap.size ≠ g ∧ w2.heap.size ≠ w.heap.size ∧ w2.heap.size ≠ w.heap.size + 1 ∧ w2.heap.size ≠ w.heap.size + 1 + 1 := ⟨by omega, by omega, by omega, by omega⟩
     have nD : gd ≠ g ∧ gd ≠ w.heap.size ∧ gd ≠ w.heap.size + 1 ∧ gd ≠ w.heap.size + 1 + 1 := ⟨by omega, by omega, by omega, by omega⟩
     go_wp2_with fail
     refine wp_region_segs (S := (Keep (fun q => q ≠ g ∧ q ≠ w.heap.size ∧ q ≠ w.heap.size + 1 ∧ q ≠ w.heap.size + 1 + 1) w9)) [([0, 1, 2, 4], some 3), ([], some 5), ([], some 6), ([], some 7)] P_mixed (by kernel_rfl) (fun _ _ _ _ _ h => h) (Keep.refl _ _).drew ?_
     show wpQuiet _ _ _ _ [_, _, _, _] _
     repeat (first | go_big_quiet_skip | (go_big_quiet_want; first | (apply quiet_load3 T_mat; rfl; rfl; exact (fun w' hG => bR.keep hG nR); go_big_quiet_on; simp only [Act.put, List.setIfInBounds_toArray, List.set_cons_succ, List.set_cons_zero]) | (apply quiet_load3 T_mat; rfl; rfl; exact (fun w' hG => bD9.keep hG nD); go_big_quiet_on; simp only [Act.put, List.setIfInBounds_toArray, List.set_cons_succ, List.set_cons_zero]) | (go_big_quiet_op; first | go_big_quiet_on | (refine ⟨_, (fun _ _ => rfl), ?_⟩; go_big_quiet_on))))
     refine wpQuiet_nil ?_
     refine seg_go rfl (fun K hK => ?_)
     go_wp2_with fail
     have hGd : Grow w9 w9.drew := (Grow.refl _).drew
     refine (l3Mul_v (pR.grow hGd).vm (pD.grow hGd).vm hMF).mono ?_
     rintro e wa ⟨r, rfl, hO, hGm⟩
     have hGa := hGd.trans hGm
     have hsd := hGd.size
     obtain ⟨ta, tn, tc, rfl, p2⟩ := OMx.of (B := w.heap.size + 3) hO (fun q hq => by have := hq.1; omega) (Nat.le_trans (mulM_bd hMF) (by decide))
     generalize mulM m md = mp at *
     have r0 := b0.grow hGa
     have r1 := b1.grow hGa
     have r2 := b2.grow hGa
     have p1 := pR.grow hGa
     have p3 := pD.grow hGa
     have hCa := hC.grow hGa
     have hKw := hKp.trans hGa.any
     have hS : Keep (fun q => q ≠ g ∧ q ≠ w.heap.size ∧ q ≠ w.heap.size + 1 ∧ q ≠ w.heap.size + 1 + 1) w9 wa := hGa.any
     clear hC hC9 b0 b1 b2 pR pD bD9 bR e0 e1 e2 hGd hGm
     go_wp2_with fail
     refine hK _ _ (hS) ?_
     clear hK K
     show wpQuiet _ _ _ _ [] _
     try (conv => arg 6; simp only [Act.put, List.setIfInBounds_toArray, List.set_cons_succ, List.set_cons_zero])
     refine wpQuiet_nil ?_
     refine seg_go rfl (fun K hK => ?_)
     obtain ⟨⟨u0, u1, u2⟩, f0, f1, f2⟩ := r0.three
     have hl0 := r0.lt
     go_wp2_with fail
     have k0 : Keep (fun q => q ≠ w.heap.size) wa (((wa.setCell ⟨w.heap.size, 0, none⟩ (.int .i64 m.rows)).setCell ⟨w.heap.size, 1, none⟩ (.int .i64 m.cols)).setCell ⟨w.heap.size, 2, none⟩ (.slice ra rn rc)) :=
      (((Keep.refl _ wa).setCell (fun _ e => e rfl) _).setCell (fun _ e => e rfl) _).setCell (fun _ e => e rfl) _
     have s0 := ((r0.set 0 (.int .i64 m.rows)).set 1 (.int .i64 m.cols)).set 2 (.slice ra rn rc)
     have s1 := r1.keep k0 (by omega)
     have s2 := r2.keep k0 (by omega)
     have z1 := p1.keep k0 (fun q hq => by omega)
     have z2 := p2.keep k0 (fun q hq => by omega)
     have z3 := p3.keep k0 (fun q hq => by omega)
     have hCb := hCa.keep k0 (fun q hq => by omega)
     have hKb := hKw.thru k0 (fun q hq _ => by omega)
     have hS0 := hS.trans (k0.mono fun q _ hb => hb.2.1)
     refine hK _ _ (hS0) ?_
     clear hK K
     generalize (((wa.setCell ⟨w.heap.size, 0, none⟩ (.int .i64 m.rows)).setCell ⟨w.heap.size, 1, none⟩ (.int .i64 m.cols)).setCell ⟨w.heap.size, 2, none⟩ (.slice ra rn rc)) = wb at *
     clear u0 u1 u2 f0 f1 f2 r0 r1 r2 p1 p2 p3 hl0
     show wpQuiet _ _ _ _ [] _
     try (conv => arg 6; simp only [Act.put, List.setIfInBounds_toArray, List.set_cons_succ, List.set_cons_zero])
     refine wpQuiet_nil ?_
     refine seg_go rfl (fun K hK => ?_)
     obtain ⟨⟨u0, u1, u2⟩, f0, f1, f2⟩ := s1.three
     have hl0 := s1.lt
     go_wp2_with fail
     have k1 : Keep (fun q => q ≠ w.heap.size + 1) wb (((wb.setCell ⟨w.heap.size + 1, 0, none⟩ (.int .i64 mp.rows)).setCell ⟨w.heap.size + 1, 1, none⟩ (.int .i64 mp.cols)).setCell ⟨w.heap.size + 1, 2, none⟩ (.slice ta tn tc)) :=
      (((Keep.refl _ wb).setCell (fun _ e => e rfl) _).setCell (fun _ e => e rfl) _).setCell (fun _ e => e rfl) _
     have t1 := ((s1.set 0 (.int .i64 mp.rows)).set 1 (.int .i64 mp.cols)).set 2 (.slice ta tn tc)
     have t0 := s0.keep k1 (by omega)
     have t2 := s2.keep k1 (by omega)
     have y1 := z1.keep k1 (fun q hq => by omega)
     have y2 := z2.keep k1 (fun q hq => by omega)
     have y3 := z3.keep k1 (fun q hq => by omega)
     have hCc := hCb.keep k1 (fun q hq => by omega)
     have hKc := hKb.thru k1 (fun q hq _ => by omega)
     have hS1 := hS0.trans (k1.mono fun q _ hb => hb.2.2.1)
     refine hK _ _ (hS1) ?_
     clear hK K
     generalize (((wb.setCell ⟨w.heap.size + 1, 0, none⟩ (.int .i64 mp.rows)).setCell ⟨w.heap.size + 1, 1, none⟩ (.int .i64 mp.cols)).setCell ⟨w.heap.size + 1, 2, none⟩ (.slice ta tn tc)) = wc at *
     clear u0 u1 u2 f0 f1 f2 s0 s1 s2 z1 z2 z3 hl0
     show wpQuiet _ _ _ _ [] _
     try (conv => arg 6; simp only [Act.put, List.setIfInBounds_toArray, List.set_cons_succ, List.set_cons_zero])
     refine wpQuiet_nil ?_
     refine seg_go rfl (fun K hK => ?_)
     obtain ⟨⟨u0, u1, u2⟩, f0, f1, f2⟩ := t2.three
     have hl0 := t2.lt
     go_wp2_with fail
     have k2 : Keep (fun q => q ≠ w.heap.size + 1 + 1) wc (((wc.setCell ⟨w.heap.size + 1 + 1, 0, none⟩ (.int .i64 md.rows)).setCell ⟨w.heap.size + 1 + 1, 1, none⟩ (.int .i64 md.cols)).setCell ⟨w.heap.size + 1 + 1, 2, none⟩ (.slice da dn dc)) :=
      (((Keep.refl _ wc).setCell (fun _ e => e rfl) _).setCell (fun _ e => e rfl) _).setCell (fun _ e => e rfl) _
     have q2 := ((t2.set 0 (.int .i64 md.rows)).set 1 (.int .i64 md.cols)).set 2 (.slice da dn dc)
     have q0 := t0.keep k2 (by omega)
     have q1 := t1.keep k2 (by omega)
     have x1 := y1.keep k2 (fun q hq => by omega)
     have x2 := y2.keep k2 (fun q hq => by omega)
     have x3 := y3.keep k2 (fun q hq => by omega)
     have hCd := hCc.keep k2 (fun q hq => by omega)
     have hKd := hKc.thru k2 (fun q hq _ => by omega)
     have hS2 := hS1.trans (k2.mono fun q _ hb => hb.2.2.2)
     refine hK _ _ (hS2) ?_
     clear hK K
     generalize (((wc.setCell ⟨w.heap.size + 1 + 1, 0, none⟩ (.int .i64 md.rows)).setCell ⟨w.heap.size + 1 + 1, 1, none⟩ (.int .i64 md.cols)).setCell ⟨w.heap.size + 1 + 1, 2, none⟩ (.slice da dn dc)) = wd at *
     refine wpSegs_nil ?_
     go_wp2
     exact ret_cells3 T_mat T_mat T_mat rfl rfl rfl rfl rfl q0 q1 q2 ⟨_, _, _, rfl, x1.oms (by omega), x2.oms (by omega), x3.oms (by omega), hCd, hKd⟩
end Go.Proofs.YtoiblknchcoecaaGreat

namespace Go.Proofs.YtoiblknchcoecaaGreat
open Go.RowKit
abbrev st3 (w : World) (g : Nat) (x y z : Value) : World := ((w.setCell ⟨g, 0, none⟩ x).setCell ⟨g, 1, none⟩ y).setCell ⟨g, 2, none⟩ z
theorem st3_keep {w : World} {g : Nat} {x y z : Value} : Keep (fun q => q ≠ g) w (st3 w g x y z) := (((Keep.refl _ w).setCell (fun _ e => e rfl) _).setCell (fun _ e => e rfl) _).setCell (fun _ e => e rfl) _
theorem st3_blk {w : World} {g : Nat} {x y z a b c : Value} {t : TypeId} (h : Blk w g #[a, b, c] t) : Blk (st3 w g x y z) g #[x, y, z] t := ((h.set 0 x).set 1 y).set 2 z
theorem l31One_c (B : Nat) (x : Int) (w : World) (hx : I64 x) (hB : B ≤ w.heap.size) :
  Calls Tryz.prog 36 #[.int .i64 x] w fun e w' => ∃ a n c m, e = .returned (.agg #[.int .i64 m.rows, .int .i64 m.cols, .slice a n c]) ∧ OMx B w' a n c m ∧ Grow w w' := by
 have bZ := (Blk.new w #[.int .i64 1, .int .i64 1, .slice (some ⟨w.heap.size + 1, 0, none⟩) 1 1] 26).alloc (.cells #[.int .i64 x] 3)
 have hO : Own ((w.alloc (.cells #[.int .i64 1, .int .i64 1, .slice (some ⟨w.heap.size + 1, 0, none⟩) 1 1] 26)).alloc (.cells #[.int .i64 x] 3)) 3 1 (some ⟨w.heap.size + 1, 0, none⟩) 1 1 [.int .i64 x] := Own.freshAt (by simp) (by unfold maxLen; omega) rfl
 have hG : Grow w ((w.alloc (.cells #[.int .i64 1, .int .i64 1, .slice (some ⟨w.heap.size + 1, 0, none⟩) 1 1] 26)).alloc (.cells #[.int .i64 x] 3)) := ((Grow.refl _).alloc _ _).alloc _ _
 go_enter Tryz.func36, Tryz.ntmps36
 go_wp2
 exact ret_cell T_mat rfl rfl rfl bZ ⟨_, _, _, ⟨1, 1, [x]⟩, rfl, ⟨hO, fun y hy => by rw [List.mem_singleton.1 hy]; exact hx, fun q hq => by simp at hq; omega, by show I64 1; unfold I64; omega, by show I64 1; unfold I64; omega, by show 1 ≤ 1025; omega⟩, hG⟩
theorem ret_cells5 {P : Program} {fn : Func} {R : Ending → World → Prop} {a : Act} {w : World} {ty : TypeId} {d1 d2 d3 d4 d5 : Array Value} {p1 p2 p3 p4 p5 : Tmp} {g1 g2 g3 g4 g5 : Nat} {t : TypeId} (hT1 : StT P ty d1.size) (hT2 : StT P ty d2.size) (hT3 : StT P ty d3.size) (hT4 : StT P ty d4.size) (hT5 : StT P ty d5.size) (h : fn.results = #[.cell p1 ty, .cell p2 ty, .cell p3 ty, .cell p4 ty, .cell p5 ty]) (hd : a.defers = []) (h1 : a.tmps.getD p1 undef = .pointer (some ⟨g1, 0, none⟩)) (h2 : a.tmps.getD p2 undef = .pointer (some ⟨g2, 0, none⟩)) (h3 : a.tmps.getD p3 undef = .pointer (some ⟨g3, 0, none⟩)) (h4 : a.tmps.getD p4 undef = .pointer (some ⟨g4, 0, none⟩)) (h5 : a.tmps.getD p5 undef = .pointer (some ⟨g5, 0, none⟩))
  (b1 : Blk w g1 d1 t) (b2 : Blk w g2 d2 t) (b3 : Blk w g3 d3 t) (b4 : Blk w g4 d4 t) (b5 : Blk w g5 d5 t) (hR : R (.returned (.tuple #[.agg d1, .agg d2, .agg d3, .agg d4, .agg d5])) w) : bodyPost P fn R .ret a w := by
 have q1 : a.tmps[p1]?.getD undef = .pointer (some ⟨g1, 0, none⟩) := by simpa using h1
 have q2 : a.tmps[p2]?.getD undef = .pointer (some ⟨g2, 0, none⟩) := by simpa using h2
 have q3 : a.tmps[p3]?.getD undef = .pointer (some ⟨g3, 0, none⟩) := by simpa using h3
 have q4 : a.tmps[p4]?.getD undef = .pointer (some ⟨g4, 0, none⟩) := by simpa using h4
 have q5 : a.tmps[p5]?.getD undef = .pointer (some ⟨g5, 0, none⟩) := by simpa using h5
 refine bodyPost_ret (v := .tuple #[.agg d1, .agg d2, .agg d3, .agg d4, .agg d5]) ?_ hd hR
 simp [results, h, q1, q2, q3, q4, q5, asAddr, hT1.load b1, hT2.load b2, hT3.load b3, hT4.load b4, hT5.load b5]
def EPost (w w' : World) (v1 v2 v3 v4 v5 : Value) : Prop := OMs w.heap.size w' v1 ∧ OMs w.heap.size w' v2 ∧ OMs w.heap.size w' v3 ∧ OMs w.heap.size w' v4 ∧ OMs w.heap.size w' v5 ∧ Grow w w'
theorem five {w wv : World} {B : Nat} {t : TypeId} {a1 : Option Addr} {n1 c1 : Nat} {m1 : Mat} {a2 : Option Addr} {n2 c2 : Nat} {m2 : Mat} {a3 : Option Addr} {n3 c3 : Nat} {m3 : Mat} {a4 : Option Addr} {n4 c4 : Nat} {m4 : Mat} {a5 : Option Addr} {n5 c5 : Nat} {m5 : Mat} (hB : w.heap.size + 5 ≤ B) (r0 : Blk wv (w.heap.size) #[.int .i64 0, .int .i64 0, .slice none 0 0] t) (r1 : Blk wv (w.heap.size + 1) #[.int .i64 0, .int .i64 0, .slice none 0 0] t) (r2 : Blk wv (w.heap.size + 1 + 1) #[.int .i64 0, .int .i64 0, .slice none 0 0] t) (r3 : Blk wv (w.heap.size + 1 + 1 + 1) #[.int .i64 0, .int .i64 0, .slice none 0 0] t) (r4 : Blk wv (w.heap.size + 1 + 1 + 1 + 1) #[.int .i64 0, .int .i64 0, .slice none 0 0] t) (p1 : OMx B wv a1 n1 c1 m1) (p2 : OMx B wv a2 n2 c2 m2) (p3 : OMx B wv a3 n3 c3 m3) (p4 : OMx B wv a4 n4 c4 m4) (p5 : OMx B wv a5 n5 c5 m5) (hG : Grow w wv) :
  Blk (st3 (st3 (st3 (st3 (st3 wv (w.heap.size) (.int .i64 m1.rows) (.int .i64 m1.cols) (.slice a1 n1 c1)) (w.heap.size + 1) (.int .i64 m2.rows) (.int .i64 m2.cols) (.slice a2 n2 c2)) (w.heap.size + 1 + 1) (.int .i64 m3.rows) (.int .i64 m3.cols) (.slice a3 n3 c3)) (w.heap.size + 1 + 1 + 1) (.int .i64 m4.rows) (.int .i64 m4.cols) (.slice a4 n4 c4)) (w.heap.size + 1 + 1 + 1 + 1) (.int .i64 m5.rows) (.int .i64 m5.cols) (.slice a5 n5 c5)) (w.heap.size) #[.int .i64 m1.rows, .int .i64 m1.cols, .slice a1 n1 c1] t ∧ Blk (st3 (st3 (st3 (st3 (st3 wv (w.heap.size) (.int .i64 m1.rows) (.int .i64 m1.cols) (.slice a1 n1 c1)) (w.heap.size + 1) (.int .i64 m2.rows) (.int .i64 m2.cols) (.slice a2 n2 c2)) (w.heap.size + 1 + 1) (.int .i64 m3.rows) (.int .i64 m3.cols) (.slice a3 n3 c3)) (w.heap.size + 1 + 1 + 1) (.int .i64 m4.rows) (.int .i64 m4.cols) (.slice a4 n4 c4)) (w.heap.size + 1 + 1 + 1 + 1) (.int .i64 m5.rows) (.int .i64 m5.cols) (.slice a5 n5 c5)) (w.heap.size + 1) #[.int .i64 m2.rows, .int .i64 m2.cols, .slice a2 n2 c2] t ∧ Blk (st3 (st3 (st3 (st3 (st3 wv (w.heap.size) (.int .i64 m1.rows) (.int .i64 m1.cols) (.slice a1 n1 c1)) (w.heap.size + 1) (.int .i64 m2.rows) (.int .i64 m2.cols) (.slice a2 n2 c2)) (w.heap.size + 1 + 1) (.int .i64 m3.rows) (.int .i64 m3.cols) (.slice a3 n3 c3)) (w.heap.size + 1 + 1 + 1) (.int .i64 m4.rows) (.int .i64 m4.cols) (.slice a4 n4 c4)) (w.heap.size + 1 + 1 + 1 + 1) (.int .i64 m5.rows) (.int .i64 m5.cols) (.slice a5 n5 c5)) (w.heap.size + 1 + 1) #[.int .i64 m3.rows, .int .i64 m3.cols, .slice a3 n3 c3] t ∧ Blk (st3 (st3 (st3 (st3 (st3 wv (w.heap.size) (.int .i64 m1.rows) (.int .i64 m1.cols) (.slice a1 n1 c1)) (w.heap.size + 1) (.int .i64 m2.rows) (.int .i64 m2.cols) (.slice a2 n2 c2)) (w.heap.size + 1 + 1) (.int .i64 m3.rows) (.int .i64 m3.cols) (.slice a3 n3 c3)) (w.heap.size + 1 + 1 + 1) (.int .i64 m4.rows) (.int .i64 m4.cols) (.slice a4 n4 c4)) (w.heap.size + 1 + 1 + 1 + 1) (.int .i64 m5.rows) (.int .i64 m5.cols) (.slice a5 n5 c5)) (w.heap.size + 1 + 1 + 1) #[.int .i64 m4.rows, .int .i64 m4.cols, .slice a4 n4 c4] t ∧ Blk (st3 (st3 (st3 (st3 (st3 wv (w.heap.size) (.int .i64 m1.rows) (.int .i64 m1.cols) (.slice a1 n1 c1)) (w.heap.size + 1) (.int .i64 m2.rows) (.int .i64 m2.cols) (.slice a2 n2 c2)) (w.heap.size + 1 + 1) (.int .i64 m3.rows) (.int .i64 m3.cols) (.slice a3 n3 c3)) (w.heap.size + 1 + 1 + 1) (.int .i64 m4.rows) (.int .i64 m4.cols) (.slice a4 n4 c4)) (w.heap.size + 1 + 1 + 1 + 1) (.int .i64 m5.rows) (.int .i64 m5.cols) (.slice a5 n5 c5)) (w.heap.size + 1 + 1 + 1 + 1) #[.int .i64 m5.rows, .int .i64 m5.cols, .slice a5 n5 c5] t ∧ EPost w (st3 (st3 (st3 (st3 (st3 wv (w.heap.size) (.int .i64 m1.rows) (.int .i64 m1.cols) (.slice a1 n1 c1)) (w.heap.size + 1) (.int .i64 m2.rows) (.int .i64 m2.cols) (.slice a2 n2 c2)) (w.heap.size + 1 + 1) (.int .i64 m3.rows) (.int .i64 m3.cols) (.slice a3 n3 c3)) (w.heap.size + 1 + 1 + 1) (.int .i64 m4.rows) (.int .i64 m4.cols) (.slice a4 n4 c4)) (w.heap.size + 1 + 1 + 1 + 1) (.int .i64 m5.rows) (.int .i64 m5.cols) (.slice a5 n5 c5)) (.agg #[.int .i64 m1.rows, .int .i64 m1.cols, .slice a1 n1 c1]) (.agg #[.int .i64 m2.rows, .int .i64 m2.cols, .slice a2 n2 c2]) (.agg #[.int .i64 m3.rows, .int .i64 m3.cols, .slice a3 n3 c3]) (.agg #[.int .i64 m4.rows, .int .i64 m4.cols, .slice a4 n4 c4]) (.agg #[.int .i64 m5.rows, .int .i64 m5.cols, .slice a5 n5 c5]) := by
 have k0 := st3_keep (w := wv) (g := w.heap.size) (x := (.int .i64 m1.rows)) (y := (.int .i64 m1.cols)) (z := (.slice a1 n1 c1))
 have r0_1 := st3_blk (x := (.int .i64 m1.rows)) (y := (.int .i64 m1.cols)) (z := (.slice a1 n1 c1)) r0
 have r1_1 := r1.keep k0 (by omega)
 have r2_1 := r2.keep k0 (by omega)
 have r3_1 := r3.keep k0 (by omega)
 have r4_1 := r4.keep k0 (by omega)
 have p1_1 := p1.keep k0 (fun q hq => by show q ≠ _; omega)
 have p2_1 := p2.keep k0 (fun q hq => by show q ≠ _; omega)
 have p3_1 := p3.keep k0 (fun q hq => by show q ≠ _; omega)
 have p4_1 := p4.keep k0 (fun q hq => by show q ≠ _; omega)
 have p5_1 := p5.keep k0 (fun q hq => by show q ≠ _; omega)
 have hG_1 := hG.keep k0 (fun q hq => by show q ≠ _; omega)
 obtain ⟨W1, hW1⟩ : ∃ W, W = st3 wv (w.heap.size) (.int .i64 m1.rows) (.int .i64 m1.cols) (.slice a1 n1 c1) := ⟨_, rfl⟩
 rw [← hW1] at r0_1 r1_1 r2_1 r3_1 r4_1 p1_1 p2_1 p3_1 p4_1 p5_1 hG_1
 have k1 := st3_keep (w := W1) (g := w.heap.size + 1) (x := (.int .i64 m2.rows)) (y := (.int .i64 m2.cols)) (z := (.slice a2 n2 c2))
 have r0_2 := r0_1.keep k1 (by omega)
 have r1_2 := st3_blk (x := (.int .i64 m2.rows)) (y := (.int .i64 m2.cols)) (z := (.slice a2 n2 c2)) r1_1
 have r2_2 := r2_1.keep k1 (by omega)
 have r3_2 := r3_1.keep k1 (by omega)
 have r4_2 := r4_1.keep k1 (by omega)
 have p1_2 := p1_1.keep k1 (fun q hq => by show q ≠ _; omega)
 have p2_2 := p2_1.keep k1 (fun q hq => by show q ≠ _; omega)
 have p3_2 := p3_1.keep k1 (fun q hq => by show q ≠ _; omega)
 have p4_2 := p4_1.keep k1 (fun q hq => by show q ≠ _; omega)
 have p5_2 := p5_1.keep k1 (fun q hq => by show q ≠ _; omega)
 have hG_2 := hG_1.keep k1 (fun q hq => by show q ≠ _; omega)
 obtain ⟨W2, hW2⟩ : ∃ W, W = st3 W1 (w.heap.size + 1) (.int .i64 m2.rows) (.int .i64 m2.cols) (.slice a2 n2 c2) := ⟨_, rfl⟩
 rw [← hW2] at r0_2 r1_2 r2_2 r3_2 r4_2 p1_2 p2_2 p3_2 p4_2 p5_2 hG_2
 have k2 := st3_keep (w := W2) (g := w.heap.size + 1 + 1) (x := (.int .i64 m3.rows)) (y := (.int .i64 m3.cols)) (z := (.slice a3 n3 c3))
 have r0_3 := r0_2.keep k2 (by omega)
 have r1_3 := r1_2.keep k2 (by omega)
 have r2_3 := st3_blk (x := (.int .i64 m3.rows)) (y := (.int .i64 m3.cols)) (z := (.slice a3 n3 c3)) r2_2
 have r3_3 := r3_2.keep k2 (by omega)
 have r4_3 := r4_2.keep k2 (by omega)
 have p1_3 := p1_2.keep k2 (fun q hq => by show q ≠ _; omega)
 have p2_3 := p2_2.keep k2 (fun q hq => by show q ≠ _; omega)
 have p3_3 := p3_2.keep k2 (fun q hq => by show q ≠ _; omega)
 have p4_3 := p4_2.keep k2 (fun q hq => by show q ≠ _; omega)
 have p5_3 := p5_2.keep k2 (fun q hq => by show q ≠ _; omega)
 have hG_3 := hG_2.keep k2 (fun q hq => by show q ≠ _; omega)
 obtain ⟨W3, hW3⟩ : ∃ W, W = st3 W2 (w.heap.size + 1 + 1) (.int .i64 m3.rows) (.int .i64 m3.cols) (.slice a3 n3 c3) := ⟨_, rfl⟩
 rw [← hW3] at r0_3 r1_3 r2_3 r3_3 r4_3 p1_3 p2_3 p3_3 p4_3 p5_3 hG_3
 have k3 := st3_keep (w := W3) (g := w.heap.size + 1 + 1 + 1) (x := (.int .i64 m4.rows)) (y := (.int .i64 m4.cols)) (z := (.slice a4 n4 c4))
 have r0_4 := r0_3.keep k3 (by omega)
 have r1_4 := r1_3.keep k3 (by omega)
 have r2_4 := r2_3.keep k3 (by omega)
 have r3_4 := st3_blk (x := (.int .i64 m4.rows)) (y := (.int .i64 m4.cols)) (z := (.slice a4 n4 c4)) r3_3
 have r4_4 := r4_3.keep k3 (by omega)
 have p1_4 := p1_3.keep k3 (fun q hq => by show q ≠ _; omega)
 have p2_4 := p2_3.keep k3 (fun q hq => by show q ≠ _; omega)
 have p3_4 := p3_3.keep k3 (fun q hq => by show q ≠ _; omega)
 have p4_4 := p4_3.keep k3 (fun q hq => by show q ≠ _; omega)
 have p5_4 := p5_3.keep k3 (fun q hq => by show q ≠ _; omega)
 have hG_4 := hG_3.keep k3 (fun q hq => by show q ≠ _; omega)
 obtain ⟨W4, hW4⟩ : ∃ W, W = st3 W3 (w.heap.size + 1 + 1 + 1) (.int .i64 m4.rows) (.int .i64 m4.cols) (.slice a4 n4 c4) := ⟨_, rfl⟩
 rw [← hW4] at r0_4 r1_4 r2_4 r3_4 r4_4 p1_4 p2_4 p3_4 p4_4 p5_4 hG_4
 have k4 := st3_keep (w := W4) (g := w.heap.size + 1 + 1 + 1 + 1) (x := (.int .i64 m5.rows)) (y := (.int .i64 m5.cols)) (z := (.slice a5 n5 c5))
 have r0_5 := r0_4.keep k4 (by omega)
 have r1_5 := r1_4.keep k4 (by omega)
 have r2_5 := r2_4.keep k4 (by omega)
 have r3_5 := r3_4.keep k4 (by omega)
 have r4_5 := st3_blk (x := (.int .i64 m5.rows)) (y := (.int .i64 m5.cols)) (z := (.slice a5 n5 c5)) r4_4
 have p1_5 := p1_4.keep k4 (fun q hq => by show q ≠ _; omega)
 have p2_5 := p2_4.keep k4 (fun q hq => by show q ≠ _; omega)
 have p3_5 := p3_4.keep k4 (fun q hq => by show q ≠ _; omega)
 have p4_5 := p4_4.keep k4 (fun q hq => by show q ≠ _; omega)
 have p5_5 := p5_4.keep k4 (fun q hq => by show q ≠ _; omega)
 have hG_5 := hG_4.keep k4 (fun q hq => by show q ≠ _; omega)
 subst hW4; subst hW3; subst hW2; subst hW1
 exact ⟨r0_5, r1_5, r2_5, r3_5, r4_5, p1_5.oms (by omega), p2_5.oms (by omega), p3_5.oms (by omega), p4_5.oms (by omega), p5_5.oms (by omega), hG_5⟩
end Go.Proofs.YtoiblknchcoecaaGreat

namespace Go.Proofs.YtoiblknchcoecaaGreat
open Go.RowKit
theorem DrawIsExactAt_c {S : Nat → Prop} (a : Option Addr) (n cap : Nat) (bs : List Int) (w : World) (h : RdB w S a n cap bs) (hn : n ≤ 1048577) :
  Calls Tryz.prog 14 #[.slice a n cap] w fun e w' => ∃ v1 v2 v3 v4 v5, e = .returned (.tuple #[v1, v2, v3, v4, v5]) ∧ EPost w w' v1 v2 v3 v4 v5 := by
 obtain ⟨w1, hw1⟩ : ∃ w1, w1 = (((((w.alloc (.cells #[.int .i64 0, .int .i64 0, .slice none 0 0] 26)).alloc (.cells #[.int .i64 0, .int .i64 0, .slice none 0 0] 26)).alloc (.cells #[.int .i64 0, .int .i64 0, .slice none 0 0] 26)).alloc (.cells #[.int .i64 0, .int .i64 0, .slice none 0 0] 26)).alloc (.cells #[.int .i64 0, .int .i64 0, .slice none 0 0] 26)) := ⟨_, rfl⟩
 have hG1 : Grow w w1 := by rw [hw1]; exact (((((Grow.refl w).alloc _ _).alloc _ _).alloc _ _).alloc _ _).alloc _ _
 have b0 : Blk w1 (w.heap.size) #[.int .i64 0, .int .i64 0, .slice none 0 0] 26 := by rw [hw1]; exact ((((Blk.newAt _ _ _ (by simp)).alloc _).alloc _).alloc _).alloc _
 have b1 : Blk w1 (w.heap.size + 1) #[.int .i64 0, .int .i64 0, .slice none 0 0] 26 := by rw [hw1]; exact (((Blk.newAt _ _ _ (by simp)).alloc _).alloc _).alloc _
 have b2 : Blk w1 (w.heap.size + 1 + 1) #[.int .i64 0, .int .i64 0, .slice none 0 0] 26 := by rw [hw1]; exact ((Blk.newAt _ _ _ (by simp)).alloc _).alloc _
 have b3 : Blk w1 (w.heap.size + 1 + 1 + 1) #[.int .i64 0, .int .i64 0, .slice none 0 0] 26 := by rw [hw1]; exact (Blk.newAt _ _ _ (by simp)).alloc _
 have b4 : Blk w1 (w.heap.size + 1 + 1 + 1 + 1) #[.int .i64 0, .int .i64 0, .slice none 0 0] 26 := by rw [hw1]; exact Blk.newAt _ _ _ (by simp)
 have hs1 := b4.lt
 go_enter Tryz.func14, Tryz.ntmps14
 go_wp2_with fail
 rw [← hw1]
 clear hw1
 refine (l1New_c _ _ _ bs _ (h.grow hG1) hn).mono ?_
 rintro e w2 ⟨g, hg, rfl, hC, hG2⟩
 go_wp2_with fail
 refine (l1Below_c g 4 _ hC (by omega)).mono ?_
 rintro e w3 ⟨y, hy, rfl, hC3, hK3⟩
 go_wp2_with fail
 refine (l1Below_c g 4 _ hC3 (by omega)).mono ?_
 rintro e w4 ⟨z, hz, rfl, hC4, hK4⟩
 go_wp2_with fail
 refine (l1Once_c g 2 _ hC4 (by omega)).mono ?_
 rintro e w5 ⟨q, rfl, hC5, hK5⟩
 have hKK := (hK3.trans hK4).trans hK5
 have hG5 := (hG1.trans hG2).keep hKK (fun i hi => by show i ≠ g; omega)
 have hs2 := hG2.size
 have hs5 := hKK.size
 have r0 := (b0.grow hG2).keep hKK (by omega)
 have r1 := (b1.grow hG2).keep hKK (by omega)
 have r2 := (b2.grow hG2).keep hKK (by omega)
 have r3 := (b3.grow hG2).keep hKK (by omega)
 have r4 := (b4.grow hG2).keep hKK (by omega)
 have hgl := hC5.lt
 clear b0 b1 b2 b3 b4 hG1 hG2 hC hC3 hC4 hK3 hK4 hK5 hKK h
 have hyz : -1000 ≤ (1 + (y : Int)) * (1 + (z : Int)) ∧ (1 + (y : Int)) * (1 + (z : Int)) ≤ 1000 := by
  have h1 : (1 + y) * (1 + z) ≤ 5 * 5 := Nat.mul_le_mul (by omega) (by omega)
  have h2 : (1 + (y : Int)) * (1 + (z : Int)) = (((1 + y) * (1 + z) : Nat) : Int) := by simp
  rw [h2]; omega
 cases q with
 | true =>
  go_wp2_with fail
  refine (l31One_c (w.heap.size + 5) (1 + (y : Int)) _ (by unfold I64; omega) (by omega)).mono ?_
  rintro e u1 ⟨a1, n1, c1, m1, rfl, p1, hH1⟩
  have hz1 := hH1.size
  replace r0 := r0.grow hH1
  replace r1 := r1.grow hH1
  replace r2 := r2.grow hH1
  replace r3 := r3.grow hH1
  replace r4 := r4.grow hH1
  replace hG5 := hG5.trans hH1
  go_wp2_with fail
  try rw [IntWalk.i64_in _ (by omega)]
  refine (l31One_c (w.heap.size + 5) ((1 + (y : Int)) * (1 + (z : Int))) _ (by unfold I64; omega) (by omega)).mono ?_
  rintro e u2 ⟨a2, n2, c2, m2, rfl, p2, hH2⟩
  have hz2 := hH2.size
  replace r0 := r0.grow hH2
  replace r1 := r1.grow hH2
  replace r2 := r2.grow hH2
  replace r3 := r3.grow hH2
  replace r4 := r4.grow hH2
  replace p1 := p1.grow hH2
  replace hG5 := hG5.trans hH2
  go_wp2_with fail
  refine (l31One_c (w.heap.size + 5) (1 + (z : Int)) _ (by unfold I64; omega) (by omega)).mono ?_
  rintro e u3 ⟨a3, n3, c3, m3, rfl, p3, hH3⟩
  have hz3 := hH3.size
  replace r0 := r0.grow hH3
  replace r1 := r1.grow hH3
  replace r2 := r2.grow hH3
  replace r3 := r3.grow hH3
  replace r4 := r4.grow hH3
  replace p1 := p1.grow hH3
  replace p2 := p2.grow hH3
  replace hG5 := hG5.trans hH3
  go_wp2_with fail
  refine (l31One_c (w.heap.size + 5) (1 + (z : Int)) _ (by unfold I64; omega) (by omega)).mono ?_
  rintro e u4 ⟨a4, n4, c4, m4, rfl, p4, hH4⟩
  have hz4 := hH4.size
  replace r0 := r0.grow hH4
  replace r1 := r1.grow hH4
  replace r2 := r2.grow hH4
  replace r3 := r3.grow hH4
  replace r4 := r4.grow hH4
  replace p1 := p1.grow hH4
  replace p2 := p2.grow hH4
  replace p3 := p3.grow hH4
  replace hG5 := hG5.trans hH4
  go_wp2_with fail
  refine (l31One_c (w.heap.size + 5) 1 _ (by unfold I64; omega) (by omega)).mono ?_
  rintro e u5 ⟨a5, n5, c5, m5, rfl, p5, hH5⟩
  have hz5 := hH5.size
  replace r0 := r0.grow hH5
  replace r1 := r1.grow hH5
  replace r2 := r2.grow hH5
  replace r3 := r3.grow hH5
  replace r4 := r4.grow hH5
  replace p1 := p1.grow hH5
  replace p2 := p2.grow hH5
  replace p3 := p3.grow hH5
  replace p4 := p4.grow hH5
  replace hG5 := hG5.trans hH5
  clear hC5
  obtain ⟨⟨x00, x01, x02⟩, y00, y01, y02⟩ := r0.three
  have hl0 := r0.lt
  obtain ⟨⟨x10, x11, x12⟩, y10, y11, y12⟩ := r1.three
  have hl1 := r1.lt
  obtain ⟨⟨x20, x21, x22⟩, y20, y21, y22⟩ := r2.three
  have hl2 := r2.lt
  obtain ⟨⟨x30, x31, x32⟩, y30, y31, y32⟩ := r3.three
  have hl3 := r3.lt
  obtain ⟨⟨x40, x41, x42⟩, y40, y41, y42⟩ := r4.three
  have hl4 := r4.lt
  obtain ⟨q0, q1, q2, q3, q4, hE⟩ := five (B := w.heap.size + 5) (Nat.le_refl _) r0 r1 r2 r3 r4 p1 p2 p3 p4 p5 hG5
  go_wp2_with fail
  exact ret_cells5 T_mat T_mat T_mat T_mat T_mat rfl rfl rfl rfl rfl rfl rfl q0 q1 q2 q3 q4 ⟨_, _, _, _, _, rfl, hE⟩
 | false =>
  go_wp2_with fail
  refine (l31Map_c g _ hC5).mono ?_
  rintro e w6 ⟨v1, v2, v4, rfl, ⟨m1, a1, n1, c1, rfl, p1⟩, ⟨m2, a2, n2, c2, rfl, p2⟩, ⟨m4, a4, n4, c4, rfl, p4⟩, hC6, hK6⟩
  replace r0 := r0.keep hK6 (by omega)
  replace r1 := r1.keep hK6 (by omega)
  replace r2 := r2.keep hK6 (by omega)
  replace r3 := r3.keep hK6 (by omega)
  replace r4 := r4.keep hK6 (by omega)
  replace hG5 := hG5.keep hK6 (fun i hi => by show i ≠ g; omega)
  have hs6 := hK6.size
  clear hC5 hK6
  obtain ⟨u6, hu6⟩ : ∃ x, x = ((w6.alloc (.cells #[.int .i64 m1.rows, .int .i64 m1.cols, .slice a1 n1 c1] 26)).alloc (.cells #[.int .i64 m2.rows, .int .i64 m2.cols, .slice a2 n2 c2] 26)).alloc (.cells #[.int .i64 m4.rows, .int .i64 m4.cols, .slice a4 n4 c4] 26) := ⟨_, rfl⟩
  have hGu6 : Grow w6 u6 := by rw [hu6]; exact (((Grow.refl _).alloc _ _).alloc _ _).alloc _ _
  have d0 : Blk u6 w6.heap.size #[.int .i64 m1.rows, .int .i64 m1.cols, .slice a1 n1 c1] 26 := by rw [hu6]; exact ((Blk.new _ _ _).alloc _).alloc _
  have d1 : Blk u6 (w6.heap.size + 1) #[.int .i64 m2.rows, .int .i64 m2.cols, .slice a2 n2 c2] 26 := by rw [hu6]; exact (Blk.newAt _ _ _ (by simp)).alloc _
  have d2 : Blk u6 (w6.heap.size + 1 + 1) #[.int .i64 m4.rows, .int .i64 m4.cols, .slice a4 n4 c4] 26 := by rw [hu6]; exact Blk.newAt _ _ _ (by simp)
  replace r0 := r0.grow hGu6
  replace r1 := r1.grow hGu6
  replace r2 := r2.grow hGu6
  replace r3 := r3.grow hGu6
  replace r4 := r4.grow hGu6
  replace p1 := p1.grow hGu6
  replace p2 := p2.grow hGu6
  replace p4 := p4.grow hGu6
  replace hG5 := hG5.trans hGu6
  have hC7 := hC6.grow hGu6
  have hl6 := d2.lt
  go_wp2_with fail
  rw [← hu6]
  clear hu6 hGu6 hC6
  refine (l31Map_c g _ hC7).mono ?_
  rintro e w7 ⟨v6, v3, v5, rfl, ⟨m6, a6, n6, c6, rfl, -⟩, ⟨m3, a3, n3, c3, rfl, p3⟩, ⟨m5, a5, n5, c5, rfl, p5⟩, hC8, hK8⟩
  replace r0 := r0.keep hK8 (by omega)
  replace r1 := r1.keep hK8 (by omega)
  replace r2 := r2.keep hK8 (by omega)
  replace r3 := r3.keep hK8 (by omega)
  replace r4 := r4.keep hK8 (by omega)
  replace d0 := d0.keep hK8 (by omega)
  replace d1 := d1.keep hK8 (by omega)
  replace d2 := d2.keep hK8 (by omega)
  replace p1 := p1.keep hK8 (fun q hq => by show q ≠ _; omega)
  replace p2 := p2.keep hK8 (fun q hq => by show q ≠ _; omega)
  replace p4 := p4.keep hK8 (fun q hq => by show q ≠ _; omega)
  replace hG5 := hG5.keep hK8 (fun i hi => by show i ≠ g; omega)
  have hs8 := hK8.size
  clear hC7 hK8 hC8
  obtain ⟨u7, hu7⟩ : ∃ x, x = ((w7.alloc (.cells #[.int .i64 m6.rows, .int .i64 m6.cols, .slice a6 n6 c6] 26)).alloc (.cells #[.int .i64 m3.rows, .int .i64 m3.cols, .slice a3 n3 c3] 26)).alloc (.cells #[.int .i64 m5.rows, .int .i64 m5.cols, .slice a5 n5 c5] 26) := ⟨_, rfl⟩
  have hGu7 : Grow w7 u7 := by rw [hu7]; exact (((Grow.refl _).alloc _ _).alloc _ _).alloc _ _
  have f0 : Blk u7 w7.heap.size #[.int .i64 m6.rows, .int .i64 m6.cols, .slice a6 n6 c6] 26 := by rw [hu7]; exact ((Blk.new _ _ _).alloc _).alloc _
  have f1 : Blk u7 (w7.heap.size + 1) #[.int .i64 m3.rows, .int .i64 m3.cols, .slice a3 n3 c3] 26 := by rw [hu7]; exact (Blk.newAt _ _ _ (by simp)).alloc _
  have f2 : Blk u7 (w7.heap.size + 1 + 1) #[.int .i64 m5.rows, .int .i64 m5.cols, .slice a5 n5 c5] 26 := by rw [hu7]; exact Blk.newAt _ _ _ (by simp)
  replace r0 := r0.grow hGu7
  replace r1 := r1.grow hGu7
  replace r2 := r2.grow hGu7
  replace r3 := r3.grow hGu7
  replace r4 := r4.grow hGu7
  replace d0 := d0.grow hGu7
  replace d1 := d1.grow hGu7
  replace d2 := d2.grow hGu7
  replace p1 := p1.grow hGu7
  replace p2 := p2.grow hGu7
  replace p3 := p3.grow hGu7
  replace p4 := p4.grow hGu7
  replace p5 := p5.grow hGu7
  replace hG5 := hG5.trans hGu7
  go_wp2_with fail
  rw [← hu7]
  clear hu7 hGu7
  have nd0 : w6.heap.size ≠ w.heap.size ∧ w6.heap.size ≠ w.heap.size + 1 ∧ w6.heap.size ≠ w.heap.size + 1 + 1 ∧ w6.heap.size ≠ w.heap.size + 1 + 1 + 1 ∧ w6.heap.size ≠ w.heap.size + 1 + 1 + 1 + 1 := ⟨by omega, by omega, by omega, by omega, by omega⟩
  have nd1 : w6.heap.size + 1 ≠ w.heap.size ∧ w6.heap.size + 1 ≠ w.heap.size + 1 ∧ w6.heap.size + 1 ≠ w.heap.size + 1 + 1 ∧ w6.heap.size + 1 ≠ w.heap.size + 1 + 1 + 1 ∧ w6.heap.size + 1 ≠ w.heap.size + 1 + 1 + 1 + 1 := ⟨by omega, by omega, by omega, by omega, by omega⟩
  have nd2 : w6.heap.size + 1 + 1 ≠ w.heap.size ∧ w6.heap.size + 1 + 1 ≠ w.heap.size + 1 ∧ w6.heap.size + 1 + 1 ≠ w.heap.size + 1 + 1 ∧ w6.heap.size + 1 + 1 ≠ w.heap.size + 1 + 1 + 1 ∧ w6.heap.size + 1 + 1 ≠ w.heap.size + 1 + 1 + 1 + 1 := ⟨by omega, by omega, by omega, by omega, by omega⟩
  have nf1 : w7.heap.size + 1 ≠ w.heap.size ∧ w7.heap.size + 1 ≠ w.heap.size + 1 ∧ w7.heap.size + 1 ≠ w.heap.size + 1 + 1 ∧ w7.heap.size + 1 ≠ w.heap.size + 1 + 1 + 1 ∧ w7.heap.size + 1 ≠ w.heap.size + 1 + 1 + 1 + 1 := ⟨by omega, by omega, by omega, by omega, by omega⟩
  have nf2 : w7.heap.size + 1 + 1 ≠ w.heap.size ∧ w7.heap.size + 1 + 1 ≠ w.heap.size + 1 ∧ w7.heap.size + 1 + 1 ≠ w.heap.size + 1 + 1 ∧ w7.heap.size + 1 + 1 ≠ w.heap.size + 1 + 1 + 1 ∧ w7.heap.size + 1 + 1 ≠ w.heap.size + 1 + 1 + 1 + 1 := ⟨by omega, by omega, by omega, by omega, by omega⟩
  refine wp_region_segs (S := (Keep (fun q => q ≠ w.heap.size ∧ q ≠ w.heap.size + 1 ∧ q ≠ w.heap.size + 1 + 1 ∧ q ≠ w.heap.size + 1 + 1 + 1 ∧ q ≠ w.heap.size + 1 + 1 + 1 + 1) u7)) [([0, 1, 2, 3, 4], some 5), ([], some 6), ([], some 7), ([], some 8), ([], some 9)] P_mixed (by kernel_rfl) (fun _ _ _ _ _ h => h) (Keep.refl _ _).drew ?_
  show wpQuiet _ _ _ _ [_, _, _, _, _] _
  repeat (first | go_big_quiet_skip | (go_big_quiet_want; first | (apply quiet_load3 T_mat; rfl; rfl; exact (fun w' hG => d0.keep hG nd0); go_big_quiet_on; simp only [Act.put, List.setIfInBounds_toArray, List.set_cons_succ, List.set_cons_zero]) | (apply quiet_load3 T_mat; rfl; rfl; exact (fun w' hG => d1.keep hG nd1); go_big_quiet_on; simp only [Act.put, List.setIfInBounds_toArray, List.set_cons_succ, List.set_cons_zero]) | (apply quiet_load3 T_mat; rfl; rfl; exact (fun w' hG => d2.keep hG nd2); go_big_quiet_on; simp only [Act.put, List.setIfInBounds_toArray, List.set_cons_succ, List.set_cons_zero]) | (apply quiet_load3 T_mat; rfl; rfl; exact (fun w' hG => f1.keep hG nf1); go_big_quiet_on; simp only [Act.put, List.setIfInBounds_toArray, List.set_cons_succ, List.set_cons_zero]) | (apply quiet_load3 T_mat; rfl; rfl; exact (fun w' hG => f2.keep hG nf2); go_big_quiet_on; simp only [Act.put, List.setIfInBounds_toArray, List.set_cons_succ, List.set_cons_zero]) | (go_big_quiet_op; first | go_big_quiet_on | (refine ⟨_, (fun _ _ => rfl), ?_⟩; go_big_quiet_on))))
  refine wpQuiet_nil ?_
  obtain ⟨W0, hW0⟩ : ∃ W, W = u7.drew := ⟨_, rfl⟩
  have hGd : Grow u7 W0 := by rw [hW0]; exact (Grow.refl _).drew
  rw [← hW0]
  clear hW0
  replace r0 := r0.grow hGd
  replace r1 := r1.grow hGd
  replace r2 := r2.grow hGd
  replace r3 := r3.grow hGd
  replace r4 := r4.grow hGd
  replace p1 := p1.grow hGd
  replace p2 := p2.grow hGd
  replace p3 := p3.grow hGd
  replace p4 := p4.grow hGd
  replace p5 := p5.grow hGd
  replace hG5 := hG5.trans hGd
  have hS : Keep (fun q => q ≠ w.heap.size ∧ q ≠ w.heap.size + 1 ∧ q ≠ w.heap.size + 1 + 1 ∧ q ≠ w.heap.size + 1 + 1 + 1 ∧ q ≠ w.heap.size + 1 + 1 + 1 + 1) u7 W0 := hGd.any
  clear hGd d0 d1 d2 f0 f1 f2
  refine seg_go rfl (fun K hK => ?_)
  obtain ⟨⟨x0, x1, x2⟩, y0, y1, y2⟩ := r0.three
  have hl0 := r0.lt
  go_wp2_with fail
  have k0 : Keep (fun q => q ≠ w.heap.size) W0 (((W0.setCell ⟨w.heap.size, 0, none⟩ (.int .i64 m1.rows)).setCell ⟨w.heap.size, 1, none⟩ (.int .i64 m1.cols)).setCell ⟨w.heap.size, 2, none⟩ (.slice a1 n1 c1)) := st3_keep
  have r0_ : Blk (((W0.setCell ⟨w.heap.size, 0, none⟩ (.int .i64 m1.rows)).setCell ⟨w.heap.size, 1, none⟩ (.int .i64 m1.cols)).setCell ⟨w.heap.size, 2, none⟩ (.slice a1 n1 c1)) (w.heap.size) #[.int .i64 m1.rows, .int .i64 m1.cols, .slice a1 n1 c1] 26 := st3_blk r0
  have hS_ := hS.trans (k0.mono fun q _ hb => hb.1)
  have r1_ := r1.keep k0 (by omega)
  have r2_ := r2.keep k0 (by omega)
  have r3_ := r3.keep k0 (by omega)
  have r4_ := r4.keep k0 (by omega)
  have p1_ := p1.keep k0 (fun q hq => by show q ≠ _; omega)
  have p2_ := p2.keep k0 (fun q hq => by show q ≠ _; omega)
  have p3_ := p3.keep k0 (fun q hq => by show q ≠ _; omega)
  have p4_ := p4.keep k0 (fun q hq => by show q ≠ _; omega)
  have p5_ := p5.keep k0 (fun q hq => by show q ≠ _; omega)
  have hG5_ := hG5.keep k0 (fun q hq => by show q ≠ _; omega)
  refine hK _ _ (hS_) ?_
  clear hK K
  clear x0 x1 x2 y0 y1 y2 hl0
  generalize (((W0.setCell ⟨w.heap.size, 0, none⟩ (.int .i64 m1.rows)).setCell ⟨w.heap.size, 1, none⟩ (.int .i64 m1.cols)).setCell ⟨w.heap.size, 2, none⟩ (.slice a1 n1 c1)) = W1 at *
  clear k0 hS hG5 r0 r1 r2 r3 r4 p1 p2 p3 p4 p5
  have hS := hS_
  clear hS_
  have hG5 := hG5_
  clear hG5_
  have r0 := r0_
  clear r0_
  have r1 := r1_
  clear r1_
  have r2 := r2_
  clear r2_
  have r3 := r3_
  clear r3_
  have r4 := r4_
  clear r4_
  have p1 := p1_
  clear p1_
  have p2 := p2_
  clear p2_
  have p3 := p3_
  clear p3_
  have p4 := p4_
  clear p4_
  have p5 := p5_
  clear p5_
  show wpQuiet _ _ _ _ [] _
  try (conv => arg 6; simp only [Act.put, List.setIfInBounds_toArray, List.set_cons_succ, List.set_cons_zero])
  refine wpQuiet_nil ?_
  refine seg_go rfl (fun K hK => ?_)
  obtain ⟨⟨x0, x1, x2⟩, y0, y1, y2⟩ := r1.three
  have hl0 := r1.lt
  go_wp2_with fail
  have k1 : Keep (fun q => q ≠ w.heap.size + 1) W1 (((W1.setCell ⟨w.heap.size + 1, 0, none⟩ (.int .i64 m2.rows)).setCell ⟨w.heap.size + 1, 1, none⟩ (.int .i64 m2.cols)).setCell ⟨w.heap.size + 1, 2, none⟩ (.slice a2 n2 c2)) := st3_keep
  have r1_ : Blk (((W1.setCell ⟨w.heap.size + 1, 0, none⟩ (.int .i64 m2.rows)).setCell ⟨w.heap.size + 1, 1, none⟩ (.int .i64 m2.cols)).setCell ⟨w.heap.size + 1, 2, none⟩ (.slice a2 n2 c2)) (w.heap.size + 1) #[.int .i64 m2.rows, .int .i64 m2.cols, .slice a2 n2 c2] 26 := st3_blk r1
  have hS_ := hS.trans (k1.mono fun q _ hb => hb.2.1)
  have r0_ := r0.keep k1 (by omega)
  have r2_ := r2.keep k1 (by omega)
  have r3_ := r3.keep k1 (by omega)
  have r4_ := r4.keep k1 (by omega)
  have p1_ := p1.keep k1 (fun q hq => by show q ≠ _; omega)
  have p2_ := p2.keep k1 (fun q hq => by show q ≠ _; omega)
  have p3_ := p3.keep k1 (fun q hq => by show q ≠ _; omega)
  have p4_ := p4.keep k1 (fun q hq => by show q ≠ _; omega)
  have p5_ := p5.keep k1 (fun q hq => by show q ≠ _; omega)
  have hG5_ := hG5.keep k1 (fun q hq => by show q ≠ _; omega)
  refine hK _ _ (hS_) ?_
  clear hK K
  clear x0 x1 x2 y0 y1 y2 hl0
  generalize (((W1.setCell ⟨w.heap.size + 1, 0, none⟩ (.int .i64 m2.rows)).setCell ⟨w.heap.size + 1, 1, none⟩ (.int .i64 m2.cols)).setCell ⟨w.heap.size + 1, 2, none⟩ (.slice a2 n2 c2)) = W2 at *
  clear k1 hS hG5 r0 r1 r2 r3 r4 p1 p2 p3 p4 p5
  have hS := hS_
  clear hS_
  have hG5 := hG5_
  clear hG5_
  have r0 := r0_
  clear r0_
  have r1 := r1_
  clear r1_
  have r2 := r2_
  clear r2_
  have r3 := r3_
  clear r3_
  have r4 := r4_
  clear r4_
  have p1 := p1_
  clear p1_
  have p2 := p2_
  clear p2_
  have p3 := p3_
  clear p3_
  have p4 := p4_
  clear p4_
  have p5 := p5_
  clear p5_
  show wpQuiet _ _ _ _ [] _
  try (conv => arg 6; simp only [Act.put, List.setIfInBounds_toArray, List.set_cons_succ, List.set_cons_zero])
  refine wpQuiet_nil ?_
  refine seg_go rfl (fun K hK => ?_)
  obtain ⟨⟨x0, x1, x2⟩, y0, y1, y2⟩ := r2.three
  have hl0 := r2.lt
  go_wp2_with fail
  have k2 : Keep (fun q => q ≠ w.heap.size + 1 + 1) W2 (((W2.setCell ⟨w.heap.size + 1 + 1, 0, none⟩ (.int .i64 m3.rows)).setCell ⟨w.heap.size + 1 + 1, 1, none⟩ (.int .i64 m3.cols)).setCell ⟨w.heap.size + 1 + 1, 2, none⟩ (.slice a3 n3 c3)) := st3_keep
  have r2_ : Blk (((W2.setCell ⟨w.heap.size + 1 + 1, 0, none⟩ (.int .i64 m3.rows)).setCell ⟨w.heap.size + 1 + 1, 1, none⟩ (.int .i64 m3.cols)).setCell ⟨w.heap.size + 1 + 1, 2, none⟩ (.slice a3 n3 c3)) (w.heap.size + 1 + 1) #[.int .i64 m3.rows, .int .i64 m3.cols, .slice a3 n3 c3] 26 := st3_blk r2
  have hS_ := hS.trans (k2.mono fun q _ hb => hb.2.2.1)
  have r0_ := r0.keep k2 (by omega)
  have r1_ := r1.keep k2 (by omega)
  have r3_ := r3.keep k2 (by omega)
  have r4_ := r4.keep k2 (by omega)
  have p1_ := p1.keep k2 (fun q hq => by show q ≠ _; omega)
  have p2_ := p2.keep k2 (fun q hq => by show q ≠ _; omega)
  have p3_ := p3.keep k2 (fun q hq => by show q ≠ _; omega)
  have p4_ := p4.keep k2 (fun q hq => by show q ≠ _; omega)
  have p5_ := p5.keep k2 (fun q hq => by show q ≠ _; omega)
  have hG5_ := hG5.keep k2 (fun q hq => by show q ≠ _; omega)
  refine hK _ _ (hS_) ?_
  clear hK K
  clear x0 x1 x2 y0 y1 y2 hl0
  generalize (((W2.setCell ⟨w.heap.size + 1 + 1, 0, none⟩ (.int .i64 m3.rows)).setCell ⟨w.heap.size + 1 + 1, 1, none⟩ (.int .i64 m3.cols)).setCell ⟨w.heap.size + 1 + 1, 2, none⟩ (.slice a3 n3 c3)) = W3 at *
  clear k2 hS hG5 r0 r1 r2 r3 r4 p1 p2 p3 p4 p5
  have hS := hS_
  clear hS_
  have hG5 := hG5_
  clear hG5_
  have r0 := r0_
  clear r0_
  have r1 := r1_
  clear r1_
  have r2 := r2_
  clear r2_
  have r3 := r3_
  clear r3_
  have r4 := r4_
  clear r4_
  have p1 := p1_
  clear p1_
  have p2 := p2_
  clear p2_
  have p3 := p3_
  clear p3_
  have p4 := p4_
  clear p4_
  have p5 := p5_
  clear p5_
  show wpQuiet _ _ _ _ [] _
  try (conv => arg 6; simp only [Act.put, List.setIfInBounds_toArray, List.set_cons_succ, List.set_cons_zero])
  refine wpQuiet_nil ?_
  refine seg_go rfl (fun K hK => ?_)
  obtain ⟨⟨x0, x1, x2⟩, y0, y1, y2⟩ := r3.three
  have hl0 := r3.lt
  go_wp2_with fail
  have k3 : Keep (fun q => q ≠ w.heap.size + 1 + 1 + 1) W3 (((W3.setCell ⟨w.heap.size + 1 + 1 + 1, 0, none⟩ (.int .i64 m4.rows)).setCell ⟨w.heap.size + 1 + 1 + 1, 1, none⟩ (.int .i64 m4.cols)).setCell ⟨w.heap.size + 1 + 1 + 1, 2, none⟩ (.slice a4 n4 c4)) := st3_keep
  have r3_ : Blk (((W3.setCell ⟨w.heap.size + 1 + 1 + 1, 0, none⟩ (.int .i64 m4.rows)).setCell ⟨w.heap.size + 1 + 1 + 1, 1, none⟩ (.int .i64 m4.cols)).setCell ⟨w.heap.size + 1 + 1 + 1, 2, none⟩ (.slice a4 n4 c4)) (w.heap.size + 1 + 1 + 1) #[.int .i64 m4.rows, .int .i64 m4.cols, .slice a4 n4 c4] 26 := st3_blk r3
  have hS_ := hS.trans (k3.mono fun q _ hb => hb.2.2.2.1)
  have r0_ := r0.keep k3 (by omega)
  have r1_ := r1.keep k3 (by omega)
  have r2_ := r2.keep k3 (by omega)
  have r4_ := r4.keep k3 (by omega)
  have p1_ := p1.keep k3 (fun q hq => by show q ≠ _; omega)
  have p2_ := p2.keep k3 (fun q hq => by show q ≠ _; omega)
  have p3_ := p3.keep k3 (fun q hq => by show q ≠ _; omega)
  have p4_ := p4.keep k3 (fun q hq => by show q ≠ _; omega)
  have p5_ := p5.keep k3 (fun q hq => by show q ≠ _; omega)
  have hG5_ := hG5.keep k3 (fun q hq => by show q ≠ _; omega)
  refine hK _ _ (hS_) ?_
  clear hK K
  clear x0 x1 x2 y0 y1 y2 hl0
  generalize (((W3.setCell ⟨w.heap.size + 1 + 1 + 1, 0, none⟩ (.int .i64 m4.rows)).setCell ⟨w.heap.size + 1 + 1 + 1, 1, none⟩ (.int .i64 m4.cols)).setCell ⟨w.heap.size + 1 + 1 + 1, 2, none⟩ (.slice a4 n4 c4)) = W4 at *
  clear k3 hS hG5 r0 r1 r2 r3 r4 p1 p2 p3 p4 p5
  have hS := hS_
  clear hS_
  have hG5 := hG5_
  clear hG5_
  have r0 := r0_
  clear r0_
  have r1 := r1_
  clear r1_
  have r2 := r2_
  clear r2_
  have r3 := r3_
  clear r3_
  have r4 := r4_
  clear r4_
  have p1 := p1_
  clear p1_
  have p2 := p2_
  clear p2_
  have p3 := p3_
  clear p3_
  have p4 := p4_
  clear p4_
  have p5 := p5_
  clear p5_
  show wpQuiet _ _ _ _ [] _
  try (conv => arg 6; simp only [Act.put, List.setIfInBounds_toArray, List.set_cons_succ, List.set_cons_zero])
  refine wpQuiet_nil ?_
  refine seg_go rfl (fun K hK => ?_)
  obtain ⟨⟨x0, x1, x2⟩, y0, y1, y2⟩ := r4.three
  have hl0 := r4.lt
  go_wp2_with fail
  have k4 : Keep (fun q => q ≠ w.heap.size + 1 + 1 + 1 + 1) W4 (((W4.setCell ⟨w.heap.size + 1 + 1 + 1 + 1, 0, none⟩ (.int .i64 m5.rows)).setCell ⟨w.heap.size + 1 + 1 + 1 + 1, 1, none⟩ (.int .i64 m5.cols)).setCell ⟨w.heap.size + 1 + 1 + 1 + 1, 2, none⟩ (.slice a5 n5 c5)) := st3_keep
  have r4_ : Blk (((W4.setCell ⟨w.heap.size + 1 + 1 + 1 + 1, 0, none⟩ (.int .i64 m5.rows)).setCell ⟨w.heap.size + 1 + 1 + 1 + 1, 1, none⟩ (.int .i64 m5.cols)).setCell ⟨w.heap.size + 1 + 1 + 1 + 1, 2, none⟩ (.slice a5 n5 c5)) (w.heap.size + 1 + 1 + 1 + 1) #[.int .i64 m5.rows, .int .i64 m5.cols, .slice a5 n5 c5] 26 := st3_blk r4
  have hS_ := hS.trans (k4.mono fun q _ hb => hb.2.2.2.2)
  have r0_ := r0.keep k4 (by omega)
  have r1_ := r1.keep k4 (by omega)
  have r2_ := r2.keep k4 (by omega)
  have r3_ := r3.keep k4 (by omega)
  have p1_ := p1.keep k4 (fun q hq => by show q ≠ _; omega)
  have p2_ := p2.keep k4 (fun q hq => by show q ≠ _; omega)
  have p3_ := p3.keep k4 (fun q hq => by show q ≠ _; omega)
  have p4_ := p4.keep k4 (fun q hq => by show q ≠ _; omega)
  have p5_ := p5.keep k4 (fun q hq => by show q ≠ _; omega)
  have hG5_ := hG5.keep k4 (fun q hq => by show q ≠ _; omega)
  refine hK _ _ (hS_) ?_
  clear hK K
  clear x0 x1 x2 y0 y1 y2 hl0
  generalize (((W4.setCell ⟨w.heap.size + 1 + 1 + 1 + 1, 0, none⟩ (.int .i64 m5.rows)).setCell ⟨w.heap.size + 1 + 1 + 1 + 1, 1, none⟩ (.int .i64 m5.cols)).setCell ⟨w.heap.size + 1 + 1 + 1 + 1, 2, none⟩ (.slice a5 n5 c5)) = W5 at *
  clear k4 hS hG5 r0 r1 r2 r3 r4 p1 p2 p3 p4 p5
  have hS := hS_
  clear hS_
  have hG5 := hG5_
  clear hG5_
  have r0 := r0_
  clear r0_
  have r1 := r1_
  clear r1_
  have r2 := r2_
  clear r2_
  have r3 := r3_
  clear r3_
  have r4 := r4_
  clear r4_
  have p1 := p1_
  clear p1_
  have p2 := p2_
  clear p2_
  have p3 := p3_
  clear p3_
  have p4 := p4_
  clear p4_
  have p5 := p5_
  clear p5_
  refine wpSegs_nil ?_
  go_wp2
  exact ret_cells5 T_mat T_mat T_mat T_mat T_mat rfl rfl rfl rfl rfl rfl rfl r0 r1 r2 r3 r4 ⟨_, _, _, _, _, rfl, p1.oms (by omega), p2.oms (by omega), p3.oms (by omega), p4.oms (by omega), p5.oms (by omega), hG5⟩
end Go.Proofs.YtoiblknchcoecaaGreat
