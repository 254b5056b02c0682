/-
  The draws of relations and of maps.
-/
import Derived.Test.YtoiblknchcoecaaGreatZDrawM
import Derived.Test.YtoiblknchcoecaaGreatZHermS
import Derived.Test.YtoiblknchcoecaaGreatZStack
import Derived.Test.YtoiblknchcoecaaGreatZIsMat
set_option maxHeartbeats 8000000
set_option maxRecDepth 100000
namespace Go.Proofs.YtoiblknchcoecaaGreat
open Go.RowKit
theorem sScale_c {S : Nat → Prop} {aa : Option Addr} {na ca R C : Nat} {xs : List Int} {w : World} (m : Int) (hA : RdI w S aa na ca xs) (hl : xs.length = R * C) (hnum : NumL xs) (hR : R ≤ 24) (hC : C ≤ 24) (hm : -5 ≤ m ∧ m ≤ 5) :
  Calls Tryz.prog 46 #[.agg #[.int .i64 R, .int .i64 C, .slice aa na ca], .int .i64 m] w fun e w' => ∃ r b, e = .returned (.tuple #[r, .bool b]) ∧ ∃ M, OM w' (fun q => w.heap.size ≤ q) r M ∧ bdM M ≤ 576 ∧ Grow w w' := by
 have hla := hA.len
 have hRC : R * C ≤ 24 * 24 := Nat.mul_le_mul hR hC
 have vA : VM w S (.agg #[.int .i64 R, .int .i64 C, .slice aa na ca]) { rows := (R : Int), cols := (C : Int), cells := xs } := ⟨aa, na, ca, rfl, hA, by show I64 (R : Int); unfold I64; omega, by show I64 (C : Int); unfold I64; omega⟩
 have HMA := Lib.hid (isMatB_ok hR hC hl hnum)
 have HN := Lib.hid (show isNumB m = true from isNumB_iff.2 (by omega))
 have Hl := Lib.hid hl
 obtain rfl : na = R * C := by omega
 obtain ⟨w3, hw3⟩ : ∃ w3, w3 = (w.alloc (.cells #[.int .i64 R, .int .i64 C, .slice aa (R * C) ca] 26)).alloc (.cells #[.int .i64 0, .int .i64 0, .slice none 0 0] 26) := ⟨_, rfl⟩
 have hG3 : Grow w w3 := by rw [hw3]; exact ((Grow.refl w).alloc _ _).alloc _ _
 have hs3 : w3.heap.size = w.heap.size + 2 := by rw [hw3]; simp
 have bA : Blk w3 w.heap.size #[.int .i64 R, .int .i64 C, .slice aa (R * C) ca] 26 := by rw [hw3]; exact (Blk.new w _ _).alloc _
 have bZ : Blk w3 (w.heap.size + 1) #[.int .i64 0, .int .i64 0, .slice none 0 0] 26 := by rw [hw3]; exact Blk.newAt _ _ _ (by simp)
 obtain ⟨⟨a0, a1, a2⟩, -⟩ := bA.three
 rw [hw3] at a0 a1 a2
 have Hw3 := Lib.hid hw3; clear hw3 hla hl
 go_enter Tryz.func46, Tryz.ntmps46
 go_wp2_with fail
 rw [← Hw3.out]
 refine (sIsMatrix_c (vA.grow hG3) (by unfold bdM; simp only; have := Hl.out; omega)).mono ?_
 rintro e w4 ⟨rfl, hG4⟩
 rw [HMA.out]
 clear a0 a1 a2
 go_wp2_with fail
 refine (sIsNumber_c m _).mono ?_
 rintro e _ ⟨rfl, rfl⟩
 rw [HN.out]
 have hG34 := hG3.trans hG4
 have bA4 := bA.grow hG4
 have bZ4 := bZ.grow hG4
 obtain ⟨⟨a0, a1, a2⟩, -⟩ := bA4.three
 have hltA := bA4.lt
 have hs34 := hG34.size
 go_wp2_with fail
 refine (l3New_c R C _ (by omega) (by omega)).mono ?_
 rintro e w6 ⟨ra, rfl, oR, fR, hG6⟩
 have bA6 := bA4.grow hG6
 have bZ6 := bZ4.grow hG6
 have hG36 := hG34.trans hG6
 have hlt6 : ∀ g, blk ra = some g → g < w6.heap.size := fun g hg => oR.lt hg
 have hltZ6 := bZ6.lt
 have hz4 : w.heap.size + 1 < w4.heap.size := bZ4.lt
 obtain ⟨w7, hw7⟩ : ∃ w7, w7 = w6.alloc (.cells #[.int .i64 R, .int .i64 C, .slice ra (R * C) (R * C)] 26) := ⟨_, rfl⟩
 have hG7 : Grow w6 w7 := by rw [hw7]; exact (Grow.refl w6).alloc _ _
 have bO7 : Blk w7 w6.heap.size #[.int .i64 R, .int .i64 C, .slice ra (R * C) (R * C)] 26 := by rw [hw7]; exact Blk.new w6 _ _
 have hO7 := oR.grow hG7
 have bA7 := bA6.grow hG7
 have bZ7 := bZ6.grow hG7
 have hG37 := hG36.trans hG7
 have hs6 := hG6.size
 have rA7 := (((hA.grow hG34).weak (T := fun g => g < w4.heap.size) (fun g hg _ => hg)).grow hG6).grow hG7
 have hKR : ∀ g, g < w7.heap.size → g < w4.heap.size → blk ra ≠ some g := fun g _ hg e => by have := fR _ e; omega
 have Hw7 := Lib.hid hw7
 have hzs : ∀ z ∈ List.replicate (R * C) (0 : Int), I64 z := zeros_rng
 clear hw7 a0 a1 a2 oR bA bZ bA4 bZ4 bA6 bZ6 vA
 generalize hrc : R * C = rc at *
 have Hrc := Lib.hid hrc; clear hrc
 go_wp2
 rw [← Hw7.out]
 go_loopw [7] (fun q wr => Keep (fun g => blk ra ≠ some g) w7 wr ∧ ∃ (k : Nat) (zs : List Int), k ≤ rc ∧ q = .int .i64 k ∧ Own wr 3 1 ra rc rc (ints zs) ∧ ∀ z ∈ zs, I64 z) (fun q _ => rc - (intOf q).toNat)
 case atStart => exact ⟨Keep.refl _ _, 0, _, Nat.zero_le _, rfl, hO7, hzs⟩
 case round =>
  clear hO7 hzs
  obtain ⟨u, rfl⟩ : ∃ u, u = wr := ⟨_, rfl⟩
  obtain ⟨hKp, k, zs, hk, rfl, hO, hzr⟩ := hrel
  have bOu := bO7.keep hKp (fun e => by have := hlt6 _ e; omega)
  have bAu := bA7.keep hKp (fun e => by have := fR _ e; omega)
  obtain ⟨⟨o0, o1, o2⟩, -⟩ := bOu.three
  have hltO := bOu.lt
  by_cases hlt : k < rc
  ·obtain ⟨⟨a0, a1, a2⟩, -⟩ := bAu.three
   have hltA' := bAu.lt
   have hzl : zs.length = rc := by simpa using hO.len
   have rAu := rA7.keep hKp hKR
   obtain ⟨pb, rfl⟩ := hO.at1 (by omega)
   obtain ⟨b1b, off1, x, rfl, hxx, -, -, hbw1, hcx⟩ := rAu.at hlt
   have hx := hnum x (List.mem_of_getElem? hxx)
   obtain ⟨y, hyk⟩ : ∃ y, zs[k]? = some y := ⟨_, List.getElem?_eq_getElem (by omega)⟩
   have hcd := hO.cell (j := k) (c := .int .i64 y) (by unfold ints; rw [List.getElem?_map, hyk]; rfl)
   have hpb := hO.lt (g := pb) rfl
   have hfr := hO.free k
   have hxm : -2000000000 ≤ x * m ∧ x * m ≤ 2000000000 := by
    have h1 : (x * m).natAbs ≤ 400000000 * 5 := by rw [Int.natAbs_mul]; exact Nat.mul_le_mul (by omega) (by omega)
    omega
   have hO9 := (hO.set k (.int .i64 (x * m))).grow (Grow.refl _).drew
   rw [← ints_set] at hO9
   have hK9 : Keep (fun g => blk (some (⟨pb, 0, none⟩ : Addr)) ≠ some g) w7 ((u.setCell ⟨pb, k, none⟩ (.int .i64 (x * m))).drew) := (hKp.setCell (p := ⟨pb, k, none⟩) (fun _ e => e rfl) _).drew
   have u5 : IntKind.i64.wrap (x * m) = x * m := IntWalk.i64_in _ (by omega)
   have hz9 : ∀ z ∈ zs.set k (x * m), I64 z := fun z hz => by
    rcases List.mem_or_eq_of_mem_set hz with h | rfl
    ·exact hzr z h
    ·unfold I64; omega
   simp only at hcx hcd hfr
   clear hO hxx hyk hzl hzr hx
   generalize hxme : x * m = xm at *
   go_wp2
   go_region
   go_wp2
   go_roundw
   case rel => exact ⟨hK9, k + 1, _, by omega, by go_num, hO9, hz9⟩
   case measure => simp [intOf]; omega
  ·have bZu := bZ7.keep hKp (fun e => by have := fR _ e; omega)
   have hGu : Grow w u := Grow.keep (S := fun g => blk ra ≠ some g) hG37 hKp (fun g hg e => by have := fR _ e; omega)
   have hsu := hGu.size
   have hzl : zs.length = rc := by simpa using hO.len
   have hOM : OM u (fun g => w.heap.size + 1 < g) (.agg #[.int .i64 R, .int .i64 C, .slice ra rc rc]) { rows := (R : Int), cols := (C : Int), cells := zs } :=
    ⟨ra, rc, rc, rfl, hO, hzr, (fun g hg => by have := fR g hg; omega), by show I64 (R : Int); unfold I64; omega, by show I64 (C : Int); unfold I64; omega⟩
   have hbd : bdM { rows := (R : Int), cols := (C : Int), cells := zs } ≤ 576 := by unfold bdM; simp only; omega
   have hbd2 : bdM (okM { rows := (R : Int), cols := (C : Int), cells := zs }) ≤ 576 := by
    unfold okM
    split
    ·exact hbd
    ·unfold bdM; simp
   go_wp2_with fail
   refine (l3Done_c hOM (by omega)).mono ?_
   rintro e w9 ⟨m9, rfl, hO9, hG9⟩
   obtain ⟨a9, n9, c9, rfl, o9, x9, f9, i9, j9⟩ := hO9
   generalize okM { rows := (R : Int), cols := (C : Int), cells := zs } = MM at *
   generalize isMatB { rows := (R : Int), cols := (C : Int), cells := zs } = mb at *
   have hs9 := hG9.size
   have bZ9 := bZu.grow hG9
   have hGa := hGu.trans hG9
   clear o0 o1 o2
   have bZA := bZ9.alloc (.cells #[.int .i64 MM.rows, .int .i64 MM.cols, .slice a9 n9 c9] 26)
   obtain ⟨⟨z0, z1, z2⟩, g0, g1, g2⟩ := bZA.three
   obtain ⟨⟨y0, y1, y2⟩, f0, f1, f2⟩ := bZ9.three
   have hltZ9 := bZ9.lt
   have hle : w.heap.size ≤ w.heap.size + 1 := by omega
   go_wp2
   refine ret_cell_tmp T_mat rfl rfl rfl ((((bZ9.set 0 _).set 1 _).set 2 _).alloc _) ⟨_, _, rfl, MM, ⟨a9, n9, c9, rfl, ?_, x9, ?_, i9, j9⟩, hbd2, (((hGa.setCell hle _).setCell hle _).setCell hle _).alloc _ _⟩
   ·exact (o9.keep ((((Keep.refl (fun q => q ≠ w.heap.size + 1) w9).setCell (fun _ e => e rfl) _).setCell (fun _ e => e rfl) _).setCell (fun _ e => e rfl) _) (fun g hg _ e => by have := f9 g hg; omega)).grow ((Grow.refl _).alloc _ _)
   ·intro g hg
    have h2 := f9 g hg
    omega
end Go.Proofs.YtoiblknchcoecaaGreat

namespace Go.Proofs.YtoiblknchcoecaaGreat
open Go.RowKit
theorem Keep.thru {S T : Nat → Prop} {a b c : World} (h : Keep S a b) (k : Keep T b c) (hT : ∀ i, i < a.heap.size → S i → T i) : Keep S a c :=
 ⟨k.os.trans h.os, k.tape.trans h.tape, k.output.trans h.output, Nat.le_trans h.size k.size, fun x hx => (k.frozen x (Nat.lt_of_lt_of_le hx h.size)).trans (h.frozen x hx),
  fun i hi hs => (k.block i (Nat.lt_of_lt_of_le hi h.size) (hT i hi hs)).trans (h.block i hi hs)⟩
theorem ret_cells3 {P : Program} {fn : Func} {R : Ending → World → Prop} {a : Act} {w : World} {ty : TypeId} {cs ds es : Array Value} {p q r : Tmp} {g g' g'' : Nat} {t : TypeId} (hT : StT P ty cs.size) (hT' : StT P ty ds.size) (hT'' : StT P ty es.size) (h : fn.results = #[.cell p ty, .cell q ty, .cell r ty]) (hd : a.defers = []) (hp : a.tmps.getD p undef = .pointer (some ⟨g, 0, none⟩)) (hq : a.tmps.getD q undef = .pointer (some ⟨g', 0, none⟩)) (hr : a.tmps.getD r undef = .pointer (some ⟨g'', 0, none⟩))
  (hb : Blk w g cs t) (hb' : Blk w g' ds t) (hb'' : Blk w g'' es t) (hR : R (.returned (.tuple #[.agg cs, .agg ds, .agg es])) w) : bodyPost P fn R .ret a w := by
 have hp' : a.tmps[p]?.getD undef = .pointer (some ⟨g, 0, none⟩) := by simpa using hp
 have hq' : a.tmps[q]?.getD undef = .pointer (some ⟨g', 0, none⟩) := by simpa using hq
 have hr' : a.tmps[r]?.getD undef = .pointer (some ⟨g'', 0, none⟩) := by simpa using hr
 refine bodyPost_ret (v := .tuple #[.agg cs, .agg ds, .agg es]) ?_ hd hR
 simp [results, h, hp', hq', hr', asAddr, hT.load hb, hT'.load hb', hT''.load hb'']
structure OMx (B : Nat) (w : World) (a : Option Addr) (n c : Nat) (m : Mat) : Prop where
 own : Own w 3 1 a n c (ints m.cells)
 rng : ∀ x ∈ m.cells, I64 x
 low : ∀ q, blk a = some q → B ≤ q
 rows : I64 m.rows
 cols : I64 m.cols
 bd : bdM m ≤ 1025
theorem OMx.keep {B n c : Nat} {w w' : World} {a : Option Addr} {m : Mat} {S : Nat → Prop} (h : OMx B w a n c m) (k : Keep S w w') (hS : ∀ q, B ≤ q → S q) : OMx B w' a n c m :=
 ⟨h.own.keep k (fun q hq _ => hS q (h.low q hq)), h.rng, h.low, h.rows, h.cols, h.bd⟩
theorem OMx.keep2 {B n c : Nat} {w w' : World} {a : Option Addr} {m : Mat} {S : Nat → Prop} (h : OMx B w a n c m) (k : Keep S w w') (hS : ∀ q, blk a = some q → S q) : OMx B w' a n c m :=
 ⟨h.own.keep k (fun q hq _ => hS q hq), h.rng, h.low, h.rows, h.cols, h.bd⟩
theorem OMx.grow {B n c : Nat} {w w' : World} {a : Option Addr} {m : Mat} (h : OMx B w a n c m) (k : Grow w w') : OMx B w' a n c m := h.keep k fun _ _ => trivial
theorem OMx.of {B : Nat} {w : World} {v : Value} {m : Mat} {F : Nat → Prop} (h : OM w F v m) (hF : ∀ q, F q → B ≤ q) (hb : bdM m ≤ 1025) : ∃ a n c, v = .agg #[.int .i64 m.rows, .int .i64 m.cols, .slice a n c] ∧ OMx B w a n c m := by
 obtain ⟨a, n, c, rfl, h1, h2, h3, h4, h5⟩ := h
 exact ⟨a, n, c, rfl, h1, h2, fun q hq => hF q (h3 q hq), h4, h5, hb⟩
def OMs (B : Nat) (w' : World) (v : Value) : Prop := ∃ m a n c, v = .agg #[.int .i64 m.rows, .int .i64 m.cols, .slice a n c] ∧ OMx B w' a n c m
theorem OMx.oms {B B' n c : Nat} {w : World} {a : Option Addr} {m : Mat} (h : OMx B w a n c m) (hB : B' ≤ B) : OMs B' w (.agg #[.int .i64 m.rows, .int .i64 m.cols, .slice a n c]) :=
 ⟨m, a, n, c, rfl, h.own, h.rng, fun q hq => Nat.le_trans hB (h.low q hq), h.rows, h.cols, h.bd⟩
theorem OMx.vm {B n c : Nat} {w : World} {a : Option Addr} {m : Mat} (h : OMx B w a n c m) : VM w (fun _ => True) (.agg #[.int .i64 m.rows, .int .i64 m.cols, .slice a n c]) m :=
 ⟨_, _, _, rfl, h.own.rdI (fun _ _ => trivial) h.rng, h.rows, h.cols⟩
theorem mm4 (c : Int) : ∃ x : Nat, x ≤ 4 ∧ (if 0 < (if 4 < c then 4 else c) then (if 4 < c then 4 else c) else 0) = (x : Int) := by
 refine ⟨(if 0 < (if 4 < c then 4 else c) then (if 4 < c then 4 else c) else 0).toNat, ?_, ?_⟩ <;> split <;> split <;> omega
theorem par_load {P : Program} {Q : Exit → Act → World → Prop} {K : Act → World → Prop} {o : Oper} {a : Act} {w : World} {ty : TypeId} {x : Operand} {g : Nat} {cs : Array Value} {t : TypeId} (hty : StT P ty cs.size) (ho : o.op = .load ty x) (hx : a.eval x = .pointer (some ⟨g, 0, none⟩)) (hb : Blk w g cs t)
  (h : K (a.put o.dst (.agg cs)) w) : o.wp P a w K Q := by
 have h1 := hty.load hb
 refine par_value (v := .agg cs) (w' := w) ?_ h
 unfold execOp
 simp [ho, hx, Instr.loadAt, Instr.sureAddr, h1]
theorem free_sub1 {P : Program} {o : Oper} {a : Act} {x : Operand} {t s : TypeId} {y : Int} (ho : o.op = .binOp .sub t x (.const (.int .i64 1)) s) (hx : a.eval x = .int .i64 y) (w : World) : (execOp a.eval o).run P w = .ok (.value (.int .i64 (IntKind.i64.wrap (y - 1)))) w := by
 have h1 : a.eval (.const (.int .i64 1)) = .int .i64 1 := rfl
 unfold execOp
 simp only [ho, hx, h1]
 rfl
theorem OMs.keep {B : Nat} {w w' : World} {v : Value} {S : Nat → Prop} (h : OMs B w v) (k : Keep S w w') (hS : ∀ q, B ≤ q → S q) : OMs B w' v := by
 obtain ⟨m, a, n, c, rfl, h⟩ := h
 exact ⟨m, a, n, c, rfl, h.keep k hS⟩
def ScPost (B : Nat) (V : Value) : Nat → Value → World → Prop
 | 0, v, _ => v = V
 | 2, v, _ => ∃ y : Nat, (y < 5 ∨ y = 0) ∧ v = .int .i64 (y : Int)
 | 3, v, _ => ∃ z : Int, -5 ≤ z ∧ z ≤ 5 ∧ v = .int .i64 z
 | 4, v, w => ∃ r b, v = .tuple #[r, .bool b] ∧ OMs B w r
 | 5, v, w => ∃ r b, v = .tuple #[r, .bool b] ∧ OMs B w r
 | 6, v, w => OMs B w v
 | _, _, _ => True
theorem ScPost.stays {B g : Nat} {V : Value} (hg : g < B) : ∀ i v w w', Keep (fun q => q ≠ g) w w' → ScPost B V i v w → ScPost B V i v w' := fun i v w w' hG h => by
 have hS : ∀ q, B ≤ q → q ≠ g := fun q hq => by omega
 unfold ScPost at *
 split at h
 ·exact h
 ·exact h
 ·exact h
 ·obtain ⟨r, b, h1, h2⟩ := h; exact ⟨r, b, h1, h2.keep hG hS⟩
 ·obtain ⟨r, b, h1, h2⟩ := h; exact ⟨r, b, h1, h2.keep hG hS⟩
 ·exact h.keep hG hS
 ·trivial
theorem free_add1 {P : Program} {o : Oper} {a : Act} {x : Operand} {t s : TypeId} {y : Int} (ho : o.op = .binOp .add t (.const (.int .i64 1)) x s) (hx : a.eval x = .int .i64 y) (w : World) : (execOp a.eval o).run P w = .ok (.value (.int .i64 (IntKind.i64.wrap (1 + y)))) w := by
 have h1 : a.eval (.const (.int .i64 1)) = .int .i64 1 := rfl
 unfold execOp
 simp only [ho, hx, h1]
 rfl
theorem Own.ne_blkD {w : World} {e t : TypeId} {sz : Nat} {a : Option Addr} {n cap g : Nat} {cs : List Value} {ds : Array Value} (ho : Own w e sz a n cap cs) (hb : Blk w g ds t) (hne : e ≠ t) : blk a ≠ some g := fun h => by
 cases a with
 | none => simp at h
 | some p =>
  simp at h
  obtain ⟨_, cur, h2, _⟩ := ho.block p rfl
  rw [h] at h2
  have := h2.symm.trans hb
  simp only [Option.some.injEq, Obj.cells.injEq] at this
  exact hne this.2.1
theorem par_call4 {P : Program} {Q : Exit → Act → World → Prop} {K : Act → World → Prop} {o : Oper} {a : Act} {w : World} {f : FuncId} {x y z t : Operand} {v u v' u' : Value} {ts : Array TypeId} {fn : Func} {c : Code} (ho : o.op = .call { callee := .value (.func f), args := #[x, y, z, t], argTypes := ts }) (hf : P.funcs[f]? = some fn) (hname : (fn.name == "runtime.NumGoroutine") = false) (hb : fn.body = some c)
  (hx : a.eval x = v) (hy : a.eval y = u) (hz : a.eval z = v') (ht : a.eval t = u') (h : Calls P f #[v, u, v', u'] w fun e w' => ∃ v, e = .returned v ∧ K (a.put o.dst v) w') : o.wp P a w K Q := by
 subst hx; subst hy; subst hz; subst ht; exact par_call ho hf hname hb (by simpa using h)
def OMd (B : Nat) (C : Int) (w : World) (v : Value) : Prop := ∃ m a n c, v = .agg #[.int .i64 m.rows, .int .i64 m.cols, .slice a n c] ∧ OMx B w a n c m ∧ m.rows = C ∧ isMatB m = true
def DrPost (B : Nat) (C : Int) : Nat → Value → World → Prop
 | 4, v, _ => ∃ y : Nat, (y < 3 ∨ y = 0) ∧ v = .int .i64 (y : Int)
 | 5, v, _ => ∃ y : Nat, y ≤ 3 ∧ v = .int .i64 (y : Int)
 | 6, v, w => OMd B C w v
 | 7, v, w => ∃ g, v = .pointer (some ⟨g, 0, none⟩) ∧ B ≤ g ∧ Blk w g #[.int .i64 0, .int .i64 0, .slice none 0 0] 26
 | _, _, _ => True
theorem DrPost.stays {B g : Nat} {C : Int} (hg : g < B) : ∀ i v w w', Keep (fun q => q ≠ g) w w' → DrPost B C i v w → DrPost B C i v w' := fun i v w w' hG h => by
 have hS : ∀ q, B ≤ q → q ≠ g := fun q hq => by omega
 unfold DrPost at *
 split at h
 ·exact h
 ·exact h
 ·obtain ⟨m, a, n, c, h1, h2, h3⟩ := h; exact ⟨m, a, n, c, h1, h2.keep hG hS, h3⟩
 ·obtain ⟨q, h1, h2, h3⟩ := h; exact ⟨q, h1, h2, h3.keep hG (hS q h2)⟩
 ·trivial
end Go.Proofs.YtoiblknchcoecaaGreat
