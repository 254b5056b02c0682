/-
  The laws' marks on strings; comparing and marking of []string.
-/
import Derived.Test.YtgeoehnbpkediaaZStr
import Derived.Test.YtgeoehnbpkediaaZInts
import Derived.Test.YtgeoehnbpkediaaZBase
import Derived.Test.YtgeoehnbpkediaaZDef
import Derived.Test.YtgeoehnbpkediaaZSheet
set_option maxHeartbeats 8000000
set_option maxRecDepth 100000
namespace Go.Proofs.Ytgeoehnbpkediaa
open Go.RowKit
def mdig : Nat → Nat → ByteArray → ByteArray
 | 0, _, acc => acc
 | f + 1, k, acc => if k = 0 then acc else mdig f (k / 10) (strOfNums [48 + (k : Int) % 10] ++ acc)
def mtext (k : Nat) : ByteArray := ⟨#[109]⟩ ++ mdig k k ⟨#[]⟩
def mkSS (l : List ByteArray) (k : Nat) : List ByteArray := (List.range l.length).map fun i => mtext (k + i)
@[simp] theorem mkSS_len (l : List ByteArray) (k : Nat) : (mkSS l k).length = l.length := by simp [mkSS]
end Go.Proofs.Ytgeoehnbpkediaa

namespace Go.Proofs.Ytgeoehnbpkediaa
open Go.RowKit
def mkD1 (d : Dfn) (k : Nat) : Dfn := ⟨mtext k, (k : Int) + 1, mtext (k + 2), mtext (k + 3), ⟨(k : Int) + 1 + 1 + 1 + 1, (k : Int) + 1 + 1 + 1 + 1 + 1, markI d.value.cells.length (k + 6)⟩⟩
def cntD1 (d : Dfn) : Nat := 6 + d.value.cells.length
def mkDD : List Dfn → Nat → List Dfn
 | [], _ => []
 | d :: r, k => mkD1 d k :: mkDD r (k + cntD1 d)
def cntDD (l : List Dfn) : Nat := (l.map cntD1).sum
@[simp] theorem mkDD_len : ∀ (l : List Dfn) (k : Nat), (mkDD l k).length = l.length
 | [], _ => rfl
 | d :: r, k => by simp [mkDD, mkDD_len r]
@[simp] theorem cntDD_nil : cntDD [] = 0 := rfl
@[simp] theorem cntDD_cons (d : Dfn) (l : List Dfn) : cntDD (d :: l) = cntD1 d + cntDD l := by simp [cntDD]
theorem Own.has {w : World} {e : TypeId} {sz : Nat} {p : Addr} {n cap : Nat} {cs : List Value} (h : Own w e sz (some p) n cap cs) {j : Nat} (hj : j < cs.length) : ∃ c, w.cell? ⟨p.block, j, none⟩ = some c := ⟨_, h.cell (List.getElem?_eq_getElem hj)⟩
theorem dvals_set (l : List Dfn) (j : Nat) (d : Dfn) : dvals (l.set j d) = (dvals l).set j d.value.cells := by unfold dvals; rw [List.map_set]
end Go.Proofs.Ytgeoehnbpkediaa

namespace Go.Proofs.Ytgeoehnbpkediaa
open Go.RowKit
def setDefL (l : List Dfn) (d : Dfn) : List Dfn := if 0 ≤ findName l d.name then l.set (findName l d.name).toNat d else l ++ [d]
def setDefB (l : List Dfn) (d : Dfn) : List Dfn × Bool := if sheetB l && sheetB (setDefL l d) then (setDefL l d, true) else ([], false)
theorem setDefL_mem {l : List Dfn} {d x : Dfn} (h : x ∈ setDefL l d) : x ∈ l ∨ x = d := by
 unfold setDefL at h
 split at h
 ·exact List.mem_or_eq_of_mem_set h
 ·simpa using h
theorem findName_lt {l : List Dfn} {s : ByteArray} : findName l s < l.length := (firstIdx_lo _ l).2
theorem setDefL_len (l : List Dfn) (d : Dfn) : (setDefL l d).length ≤ l.length + 1 := by
 unfold setDefL; split <;> simp
theorem setDef_no {l : List Dfn} {d : Dfn} (h : (sheetB l && sheetB (setDefL l d)) = false) : setDefB l d = ([], false) := by unfold setDefB; rw [h]; rfl
theorem setDef_yes {l : List Dfn} {d : Dfn} (h1 : sheetB l = true) (h2 : sheetB (setDefL l d) = true) : setDefB l d = (setDefL l d, true) := by unfold setDefB; rw [h1, h2]; rfl
theorem Row.builtAt {w : World} {S : Nat → Prop} {e : TypeId} {sz g : Nat} {cs : Array Value} (n : Nat) (hg : g = w.heap.size) (hn : n ≤ maxLen) (hs : cs.size = n * sz) (hS : ∀ b, S b) : Row (w.alloc (.cells cs e)) S sz (some ⟨g, 0, none⟩) n n cs.toList := by
 subst hg; exact Row.built n hn hs (hS _)
theorem Inner.repl {w : World} {F : Nat → Prop} {g : Option Nat} {vs : List Value} {xss : List (List Int)} (h : Inner w F g vs xss) {j : Nat} {b : Option Addr} {c : Nat} {xs : List Int} (ho : Own w 3 1 b xs.length c (ints xs)) (hr : ∀ x ∈ xs, I64 x)
  (hb : ∀ q, blk b = some q → F q ∧ g ≠ some q) (hnew : ∀ q, blk b = some q → ∀ v ∈ vs, v.ownBlock ≠ some q) : Inner w F g (vs.set j (.slice b xs.length c)) (xss.set j xs) := by
 refine ⟨by simp [h.len], fun i zs hi => ?_, ?_⟩
 ·by_cases hij : j = i
  ·subst hij
   obtain ⟨hj, _⟩ := List.getElem?_eq_some_iff.1 hi
   simp only [List.length_set] at hj
   rw [List.getElem?_set_self hj] at hi
   obtain rfl := Option.some.inj hi
   exact ⟨b, c, by rw [List.getElem?_set_self (by rw [h.len]; exact hj)], ho, hr, hb⟩
  ·rw [List.getElem?_set_ne hij] at hi
   obtain ⟨b', c', h1, h2⟩ := h.each i zs hi
   exact ⟨b', c', by rw [List.getElem?_set_ne hij]; exact h1, h2⟩
 ·rw [List.pairwise_iff_getElem]
  intro p q hp hq hpq u hu
  simp only [List.length_set] at hp hq
  rw [List.getElem_set] at hu ⊢
  split at hu
  ·rename_i e
   rw [if_neg (by omega)]
   rw [ownBlock_slice] at hu
   exact hnew u hu _ (List.getElem_mem hq)
  ·split
   ·rw [ownBlock_slice]
    intro e
    exact hnew u e _ (List.getElem_mem hp) hu
   ·exact List.pairwise_iff_getElem.1 h.apart p q hp hq hpq u hu
def Fresh (w0 : World) (a1 am : Option Addr) (ss : List Value) : Prop := ∀ q, blk am = some q → w0.heap.size ≤ q ∧ blk a1 ≠ some q ∧ ∀ v ∈ ss, v.ownBlock ≠ some q
theorem Fresh.mk' {w0 wr : World} {a1 am : Option Addr} {ss : List Value} {xss : List (List Int)} {G : Nat → Prop} (hI : Inner wr G (blk a1) ss xss) (hlo : ∀ g, blk a1 = some g → g < wr.heap.size) (h0 : w0.heap.size ≤ wr.heap.size) (hf : ∀ q, blk am = some q → wr.heap.size ≤ q) : Fresh w0 a1 am ss :=
 fun q hq => ⟨by have := hf q hq; omega, fun e => by have := hlo q e; have := hf q hq; omega, fun v hv e => by have := (hI.lt hv e).1; have := hf q hq; omega⟩
theorem SepD.app {w0 w2 w3 : World} {a1 a3 am : Option Addr} {k c3 cm : Nat} {L : List Dfn} {ss : List Value} {d : Dfn} (hI : Inner w2 (New w0 w2) (blk a1) ss (dvals L)) (hl : L.length = k) (hok : ∀ x ∈ L, DOk x) (hlo : ∀ g, blk a1 = some g → New w0 w2 g)
  (om : Own w2 3 1 am d.value.cells.length cm (ints d.value.cells)) (hr : ∀ x ∈ d.value.cells, I64 x) (hd : DOk d) (hfresh : Fresh w0 a1 am ss) (h0 : w0.heap.size ≤ w2.heap.size)
  (hA : Apped w2 w3 30 7 a1 a3 (k + 1) c3 (dAll L ss ++ dcell d (.slice am d.value.cells.length cm))) : SepD w3 (New w0 w3) a3 (k + 1) c3 (L ++ [d]) := by
 have hss : ss.length = L.length := by have := hI.len; simpa using this
 have hs3 := hA.keep.size
 have hl3 := hA.lo (B := w0.heap.size) (by omega) (fun g hg => (hlo g hg).1)
 refine ⟨⟨ss ++ [.slice am d.value.cells.length cm], ?_, ?_⟩, by simp [hl], fun x hx => ?_, fun g hg => ⟨hl3 g hg, hA.own.lt hg⟩⟩
 ·rw [dAll_append hss, dAll_one]; exact hA.own
 ·have h1 := hI.snoc om hr (fun q hq => ⟨⟨(hfresh q hq).1, om.lt hq⟩, (hfresh q hq).2.1⟩) (fun q hq v hv hvq => (hfresh q hq).2.2 v hv hvq)
  rw [dvals_append]
  refine h1.move (G := New w0 w3) (g' := blk a3) hA.keep fun b hb hF hne => ⟨hne, ⟨hF.1, by omega⟩, fun e => ?_⟩
  rcases hA.new with e2 | ⟨g', e2, hg'⟩
  ·rw [e2] at e; exact hne e
  ·rw [e2] at e
   obtain rfl := Option.some.inj e
   omega
 ·rcases List.mem_append.1 hx with hx | hx
  ·exact hok x hx
  ·rw [List.mem_singleton] at hx; subst hx; exact hd
theorem SepD.put {w0 w2 : World} {g n c1 cm : Nat} {am : Option Addr} {L : List Dfn} {ss : List Value} {d : Dfn} {k : Nat} (hO : Own w2 30 7 (some ⟨g, 0, none⟩) n c1 (dAll L ss)) (hI : Inner w2 (New w0 w2) (some g) ss (dvals L)) (hl : L.length = n) (hok : ∀ x ∈ L, DOk x) (hlo : New w0 w2 g)
  (om : Own w2 3 1 am d.value.cells.length cm (ints d.value.cells)) (hr : ∀ x ∈ d.value.cells, I64 x) (hd : DOk d) (hfresh : Fresh w0 (some ⟨g, 0, none⟩) am ss) (hk : k < L.length) :
  SepD (((((((w2.setCell ⟨g, k * 7, none⟩ (.string d.name)).setCell ⟨g, k * 7 + 1, none⟩ (.int .i64 d.op)).setCell ⟨g, k * 7 + 2, none⟩ (.string d.a)).setCell ⟨g, k * 7 + 3, none⟩ (.string d.b)).setCell ⟨g, k * 7 + 4, none⟩ (.int .i64 d.value.rows)).setCell ⟨g, k * 7 + 5, none⟩ (.int .i64 d.value.cols)).setCell ⟨g, k * 7 + 6, none⟩ (.slice am d.value.cells.length cm)) (New w0 w2) (some ⟨g, 0, none⟩) n c1 (L.set k d) ∧
  Keep (fun q => q ≠ g) w2 (((((((w2.setCell ⟨g, k * 7, none⟩ (.string d.name)).setCell ⟨g, k * 7 + 1, none⟩ (.int .i64 d.op)).setCell ⟨g, k * 7 + 2, none⟩ (.string d.a)).setCell ⟨g, k * 7 + 3, none⟩ (.string d.b)).setCell ⟨g, k * 7 + 4, none⟩ (.int .i64 d.value.rows)).setCell ⟨g, k * 7 + 5, none⟩ (.int .i64 d.value.cols)).setCell ⟨g, k * 7 + 6, none⟩ (.slice am d.value.cells.length cm)) := by
 have hss : ss.length = L.length := by have := hI.len; simpa using this
 have hK : Keep (fun q => q ≠ g) w2 (((((((w2.setCell ⟨g, k * 7, none⟩ (.string d.name)).setCell ⟨g, k * 7 + 1, none⟩ (.int .i64 d.op)).setCell ⟨g, k * 7 + 2, none⟩ (.string d.a)).setCell ⟨g, k * 7 + 3, none⟩ (.string d.b)).setCell ⟨g, k * 7 + 4, none⟩ (.int .i64 d.value.rows)).setCell ⟨g, k * 7 + 5, none⟩ (.int .i64 d.value.cols)).setCell ⟨g, k * 7 + 6, none⟩ (.slice am d.value.cells.length cm)) :=
  (((((((Keep.refl _ w2).setCell (fun _ e => e rfl) _).setCell (fun _ e => e rfl) _).setCell (fun _ e => e rfl) _).setCell (fun _ e => e rfl) _).setCell (fun _ e => e rfl) _).setCell (fun _ e => e rfl) _).setCell (fun _ e => e rfl) _
 refine ⟨⟨⟨ss.set k (.slice am d.value.cells.length cm), hO.dset hss hk, ?_⟩, by simp [hl], fun x hx => ?_, fun q hq => by simp at hq; subst hq; exact hlo⟩, hK⟩
 ·rw [dvals_set]
  have h1 := hI.repl (j := k) om hr (fun q hq => ⟨⟨(hfresh q hq).1, om.lt hq⟩, by simpa using (hfresh q hq).2.1⟩) (fun q hq v hv hvq => (hfresh q hq).2.2 v hv hvq)
  exact h1.keep hK fun b _ _ hne e => hne (by rw [e])
 ·rcases List.mem_or_eq_of_mem_set hx with hx | rfl
  ·exact hok x hx
  ·exact hd
theorem SepD.nilAt {w : World} {F : Nat → Prop} {g : Nat} {cs : Array Value} (hg : g = w.heap.size) (hc : cs = #[]) (hF : F g) : SepD (w.alloc (.cells cs 30)) F (some ⟨g, 0, none⟩) 0 0 [] := by
 subst hc
 exact ⟨⟨[], Own.freshAt hg (by unfold maxLen; omega) rfl, Inner.nilw⟩, rfl, (fun _ h => by cases h), fun q hq => by simp at hq; subst hq; exact hF⟩
end Go.Proofs.Ytgeoehnbpkediaa

namespace Go.Proofs.Ytgeoehnbpkediaa
open Go.RowKit
def DepOk (l : List Dfn) (out : List ByteArray) : Prop := out.Nodup ∧ ∀ s ∈ out, s ∈ l.map (·.name)
theorem DepOk.len {l : List Dfn} {out : List ByteArray} (h : DepOk l out) : out.length ≤ l.length := by
 have := nodup_le h.1 h.2; simpa using this
theorem sheet_len {l : List Dfn} (h : sheetB l = true) : l.length ≤ 12 := by
 unfold sheetB at h; rw [Bool.and_eq_true, decide_eq_true_eq] at h; exact h.2
end Go.Proofs.Ytgeoehnbpkediaa

namespace Go.Proofs.Ytgeoehnbpkediaa
open Go.RowKit
theorem specSetDef_c {S T : Nat → Prop} (a : Option Addr) (n cap : Nat) (l : List Dfn) (dv : Value) (d : Dfn) (w : World) (h : RdD w S a n cap l) (hd : VD w T dv d) (hb : bdDD l ≤ 1048576) (hbd : bdD d ≤ 1048576) :
  Calls Try.prog 17 #[.slice a n cap, dv] w fun e w' => ∃ r, e = .returned (.tuple #[r, .bool (setDefB l d).2]) ∧ ODD w' (New w w') r (setDefB l d).1 ∧ Grow w w' := by
 have Hl := Lib.hid h.len
 have hcl := bdDD_cells hb
 have hn : n ≤ 1048576 := by unfold bdDD at hb; rw [← Hl.out]; omega
 obtain ⟨av, nv, cv, rfl, hv, hok⟩ := hd
 have hnv : d.value.cells.length = nv := hv.len
 subst hnv
 have hcd : d.value.cells.length ≤ 1048576 := by unfold bdD at hbd; omega
 obtain ⟨w0, hw0⟩ : ∃ w0, w0 = w.alloc (.cells #[.string d.name, .int .i64 d.op, .string d.a, .string d.b, .int .i64 d.value.rows, .int .i64 d.value.cols, .slice av d.value.cells.length cv] 30) := ⟨_, rfl⟩
 have hG0 : Grow w w0 := by rw [hw0]; exact (Grow.refl _).alloc _ _
 have hs0 : w0.heap.size = w.heap.size + 1 := by rw [hw0]; simp
 have hB0 : Blk w0 w.heap.size #[.string d.name, .int .i64 d.op, .string d.a, .string d.b, .int .i64 d.value.rows, .int .i64 d.value.cols, .slice av d.value.cells.length cv] 30 := by rw [hw0]; exact Blk.new _ _ _
 have Hw0 := Lib.hid hw0; clear hw0
 generalize hfn : findName l d.name = fn at *
 have hset : setDefL l d = if 0 ≤ fn then l.set fn.toNat d else l ++ [d] := by unfold setDefL; rw [hfn]
 have hfl : fn < l.length := by rw [← hfn]; exact findName_lt
 have hfl1 : -1 ≤ fn := by rw [← hfn]; exact (firstIdx_lo _ l).1
 have Hfn := Lib.hid hfn; clear hfn
 go_enter Try.func17, Try.ntmps17
 go_wp2
 rw [← Hw0.out]
 go_loopw [6, 7] (fun v i wr => Grow w0 wr ∧ ∃ (k c1 : Nat) (a1 : Option Addr), k ≤ n ∧ i = .int .i64 k ∧ v = .slice a1 k c1 ∧ SepD wr (New w0 wr) a1 k c1 (l.take k)) (fun _ i _ => n - (intOf i).toNat)
 case atStart =>
  refine ⟨(Grow.refl w0).alloc _ _, 0, 0, _, Nat.zero_le _, rfl, rfl, ?_⟩
  exact SepD.nilAt (by omega) rfl ⟨by omega, by simp; omega⟩
 case round =>
  obtain ⟨hG, k, c1, a1, hk, rfl, rfl, hS⟩ := hrel
  by_cases hlt : k < n
  ·obtain ⟨b, off, x, ax, cx, rfl, hx, _, hbw, ⟨e0, e1, e2, e3, e4, e5, e6⟩, r1, ho⟩ := (h.grow (hG0.trans hG)).at hlt
   have htot := (bdDs_at hx).2
   have hcx : x.value.cells.length ≤ 1048576 := by unfold bdDD at hb; unfold bdD at htot; omega
   have Hx := Lib.hid hx; clear hx htot
   obtain ⟨wb, hwb⟩ : ∃ wb, wb = wr.alloc (.cells #[.string x.name, .int .i64 x.op, .string x.a, .string x.b, .int .i64 x.value.rows, .int .i64 x.value.cols, .slice ax x.value.cells.length cx] 30) := ⟨_, rfl⟩
   have hGb : Grow wr wb := by rw [hwb]; exact (Grow.refl _).alloc _ _
   have hsb : wb.heap.size = wr.heap.size + 1 := by rw [hwb]; simp
   have hBb : Blk wb wr.heap.size #[.string x.name, .int .i64 x.op, .string x.a, .string x.b, .int .i64 x.value.rows, .int .i64 x.value.cols, .slice ax x.value.cells.length cx] 30 := by rw [hwb]; exact Blk.new _ _ _
   have Hwb := Lib.hid hwb; clear hwb
   have hvm : VM wb S (.agg #[.int .i64 x.value.rows, .int .i64 x.value.cols, .slice ax x.value.cells.length cx]) x.value := ⟨ax, _, cx, rfl, r1.grow hGb, ho.2.2.2.2.1, ho.2.2.2.2.2⟩
   have p4 := hGb.cell e4; have p5 := hGb.cell e5; have p6 := hGb.cell e6
   go_wp2_with fail
   rw [← Hwb.out]
   refine (l3Copy_c hvm hcx).mono ?_
   rintro e w1 ⟨v', rfl, ⟨am, nm, cm, rfl, om, xm, fm, hmr, hmc⟩, hG1⟩
   have hnm : x.value.cells.length = nm := by simpa using om.len
   subst hnm
   have hB1 := hBb.grow hG1
   obtain ⟨⟨y0, y1, y2, y3, y4, y5, y6⟩, -⟩ := hB1.seven
   have f4 := hB1.free 4; have f5 := hB1.free 5; have f6 := hB1.free 6
   have hK : Keep (fun q => q ≠ wr.heap.size) w1 (((w1.setCell ⟨wr.heap.size, 4, none⟩ (.int .i64 x.value.rows)).setCell ⟨wr.heap.size, 5, none⟩ (.int .i64 x.value.cols)).setCell ⟨wr.heap.size, 6, none⟩ (.slice am x.value.cells.length cm)) :=
    (((Keep.refl _ w1).setCell (fun _ e => e rfl) _).setCell (fun _ e => e rfl) _).setCell (fun _ e => e rfl) _
   have hGk : Grow wr (((w1.setCell ⟨wr.heap.size, 4, none⟩ (.int .i64 x.value.rows)).setCell ⟨wr.heap.size, 5, none⟩ (.int .i64 x.value.cols)).setCell ⟨wr.heap.size, 6, none⟩ (.slice am x.value.cells.length cm)) := (hGb.trans hG1).keep hK fun q hq => by omega
   have omk := om.keep hK (fun g hg _ e => by have := (fm g hg).1; omega)
   have hfr : ∀ q, blk am = some q → wr.heap.size ≤ q := fun q hq => by have := (fm q hq).1; omega
   have hsw := hG.size
   clear hG1 hGb hK om fm hB1 p4 p5 p6
   obtain ⟨⟨ss, hO, hI⟩, hlS, hokS, hloS⟩ := hS
   have hOk := hO.grow hGk
   go_wp2_with (at_builtin; refine wpList_app rfl (.tmp 28) (.tmp 30) _ rfl T_defs rfl (hOk.grow ((Grow.refl _).alloc _ _)) rfl (Row.builtAt (S := fun _ => True) 1 (by simp) (by unfold maxLen; omega) rfl fun _ => trivial) (by simp [Value.oneCell']) (by omega) (by unfold maxLen; omega) ?_; intro a3 c3 w3 hA3)
   have hGz := hGk.alloc #[.string x.name, .int .i64 x.op, .string x.a, .string x.b, .int .i64 x.value.rows, .int .i64 x.value.cols, .slice am x.value.cells.length cm] 30
   have hS3 := SepD.app ((hI.grow hGz).weak fun b hb hF hne => ⟨⟨hF.1, hb⟩, hne⟩) hlS hokS (fun g hg => ⟨(hloS g hg).1, Nat.lt_of_lt_of_le (hloS g hg).2 hGz.size⟩) (omk.grow ((Grow.refl _).alloc _ _)) r1.rng ho (Fresh.mk' hI (fun g hg => (hloS g hg).2) hsw hfr) (by have := hGz.size; omega) hA3
   have hG3 : Grow w0 w3 := hA3.grow (hG.trans (hGk.alloc _ _)) (fun g hg => (hloS g hg).1)
   rw [← take_succ Hx.out] at hS3
   clear hA3
   go_wp2
   go_roundw
   case rel => exact ⟨hG3, k + 1, c3, a3, by omega, by go_num, rfl, hS3⟩
   case measure => simp [intOf]; omega
  ·have hk0 : k = n := by omega
   subst hk0
   rw [take_all Hl.out] at hS
   generalize hww : wr = w2 at *
   clear hww
   have hS2 := hS
   clear hS
   have hG2 := hG
   have hGa := hG0.trans hG2
   have hs2 := hG2.size
   have hB2 := hB0.grow hG2
   obtain ⟨⟨z0, z1, z2, z3, z4, z5, z6⟩, -⟩ := hB2.seven
   have hvm : VM w2 T (.agg #[.int .i64 d.value.rows, .int .i64 d.value.cols, .slice av d.value.cells.length cv]) d.value := ⟨av, _, cv, rfl, hv.grow hGa, hok.2.2.2.2.1, hok.2.2.2.2.2⟩
   go_wp2_with fail
   refine (l3Copy_c hvm hcd).mono ?_
   rintro e w3 ⟨v', rfl, ⟨am, nm, cm, rfl, om, xm, fm, hmr, hmc⟩, hG3⟩
   have hnm : d.value.cells.length = nm := by simpa using om.len
   subst hnm
   have hs3 := hG3.size
   have hB3 := hB2.grow hG3
   obtain ⟨⟨y0, y1, y2, y3, y4, y5, y6⟩, -⟩ := hB3.seven
   have f4 := hB3.free 4; have f5 := hB3.free 5; have f6 := hB3.free 6
   have hK : Keep (fun q => q ≠ w.heap.size) w3 (((w3.setCell ⟨w.heap.size, 4, none⟩ (.int .i64 d.value.rows)).setCell ⟨w.heap.size, 5, none⟩ (.int .i64 d.value.cols)).setCell ⟨w.heap.size, 6, none⟩ (.slice am d.value.cells.length cm)) :=
    (((Keep.refl _ w3).setCell (fun _ e => e rfl) _).setCell (fun _ e => e rfl) _).setCell (fun _ e => e rfl) _
   have hGk := (hGa.trans hG3).keep hK fun q hq => by omega
   have omk := om.keep hK (fun g hg _ e => by have := (fm g hg).1; omega)
   have hfr : ∀ q, blk am = some q → w2.heap.size ≤ q := fun q hq => (fm q hq).1
   have hBk := ((hB3.set 4 (.int .i64 d.value.rows)).set 5 (.int .i64 d.value.cols)).set 6 (.slice am d.value.cells.length cm)
   simp only [List.setIfInBounds_toArray, List.set_cons_succ, List.set_cons_zero] at hBk
   go_wp2_with fail
   refine (specFindDef_c _ _ _ l d.name _ (h.grow hGk) (by omega)).mono ?_
   rintro e w4 ⟨rfl, hw4⟩
   have hG4 : Grow (((w3.setCell ⟨w.heap.size, 4, none⟩ (.int .i64 d.value.rows)).setCell ⟨w.heap.size, 5, none⟩ (.int .i64 d.value.cols)).setCell ⟨w.heap.size, 6, none⟩ (.slice am d.value.cells.length cm)) w4 := by rw [← hw4]; exact Grow.refl _
   clear hw4
   rw [Hfn.out]
   have hKa : Keep (fun q => q ≠ w.heap.size) w2 w4 := (hG3.mono fun _ _ _ => trivial).trans (hK.trans (hG4.mono fun _ _ _ => trivial))
   have hs4 := hKa.size
   obtain ⟨⟨ss, hO, hI⟩, hlS, hokS, hloS⟩ := hS2
   have hFr : Fresh w a1 am ss := Fresh.mk' hI (fun g hg => (hloS g hg).2) (by omega) hfr
   have hO4 := hO.keep hKa (fun g hg _ e => by have := (hloS g hg).1; omega)
   have hI4 : Inner w4 (New w w4) (blk a1) ss (dvals l) := (hI.keep hKa (fun b hb hF _ e => by have := hF.1; omega)).weak fun b hb hF hne => ⟨⟨by have := hF.1; omega, hb⟩, hne⟩
   have hlo4 : ∀ g, blk a1 = some g → New w w4 g := fun g hg => ⟨by have := (hloS g hg).1; omega, by have := (hloS g hg).2; omega⟩
   have om4 := omk.grow hG4
   have hG04 := hGk.trans hG4
   have hclS : ∀ x ∈ setDefL l d, x.value.cells.length ≤ 2097152 := fun x hx => by
    rcases setDefL_mem hx with hx | rfl
    ·exact hcl x hx
    ·omega
   have hB4 := hBk.grow hG4
   have hlb := Hl.out
   obtain ⟨⟨y0, y1, y2, y3, y4, y5, y6⟩, -⟩ := hB4.seven
   clear hO hI hloS om hB3 hB2 f4 f5 f6 z0 z1 z2 z3 z4 z5 z6 hvm hK hKa omk hfr hBk hGk hG3 hG4 fm
   by_cases hq : 0 ≤ fn
   ·obtain ⟨k, rfl⟩ : ∃ k : Nat, fn = k := ⟨fn.toNat, by omega⟩
    rw [if_pos hq] at hset
    simp only [Int.toNat_natCast] at hset
    have hkl : k < l.length := by omega
    cases a1 with
    | none => have := hO4.nil rfl; have := hO4.le; omega
    | some p =>
     have hp := (hO4.block p rfl).1
     obtain ⟨pb, po, ps⟩ := p
     simp only [Addr.mk.injEq, true_and] at hp
     obtain ⟨rfl, rfl⟩ := hp
     have hlen : (dAll l ss).length = l.length * 7 := dAll_len (by have := hI4.len; simpa using this)
     obtain ⟨c0, e0⟩ := hO4.has (j := k * 7) (by omega)
     obtain ⟨c1', e1⟩ := hO4.has (j := k * 7 + 1) (by omega)
     obtain ⟨c2, e2⟩ := hO4.has (j := k * 7 + 2) (by omega)
     obtain ⟨c3, e3⟩ := hO4.has (j := k * 7 + 3) (by omega)
     obtain ⟨c4, e4⟩ := hO4.has (j := k * 7 + 4) (by omega)
     obtain ⟨c5, e5⟩ := hO4.has (j := k * 7 + 5) (by omega)
     obtain ⟨c6, e6⟩ := hO4.has (j := k * 7 + 6) (by omega)
     have f0 := hO4.free (k * 7); have f1 := hO4.free (k * 7 + 1); have f2 := hO4.free (k * 7 + 2); have f3 := hO4.free (k * 7 + 3); have f4 := hO4.free (k * 7 + 4); have f5 := hO4.free (k * 7 + 5); have f6 := hO4.free (k * 7 + 6)
     simp only at e0 e1 e2 e3 e4 e5 e6 f0 f1 f2 f3 f4 f5 f6
     obtain ⟨hS5, hK5⟩ := SepD.put hO4 hI4 hlS hokS (hlo4 pb rfl) om4 hv.rng hok hFr hkl
     rw [← hset] at hS5
     have hGW := hG04.keep hK5 fun q hq e => by have := (hlo4 pb rfl).1; omega
     have hW5 := hK5.size
     clear hO4 hI4 hset
     go_wp2_with fail
     refine (specIsSheet_c _ _ _ l _ (h.grow hGW) hn hcl).mono ?_
     rintro e w6 ⟨rfl, hG6⟩
     cases hs : sheetB l with
     | false =>
      have HN := Lib.hid (setDef_no (l := l) (d := d) (by rw [hs]; rfl))
      have H5 := Lib.hid hs; clear hs
      have hsz := (hGW.trans hG6).size
      go_wp2
      go_ret2
      exact ⟨_, by rw [HN.out]; rfl, ⟨_, _, _, rfl, by rw [HN.out]; exact SepD.nilAt rfl rfl ⟨hsz, by simp⟩⟩, (hGW.trans hG6).alloc _ _⟩
     | true =>
      have hl12 := sheet_len hs
      have HS := Lib.hid hs; clear hs
      go_wp2_with fail
      refine (specIsSheet_c _ _ _ (setDefL l d) _ ((hS5.grow hG6).rdD (S := fun _ => True) fun _ _ => trivial) (by omega) hclS).mono ?_
      rintro e w7 ⟨rfl, hG7⟩
      have hGz := (hGW.trans hG6).trans hG7
      have hsz := hGz.size
      cases hs5 : sheetB (setDefL l d) with
      | false =>
       have HN := Lib.hid (setDef_no (l := l) (d := d) (by rw [hs5]; simp))
       have H5 := Lib.hid hs5; clear hs5
       go_wp2
       go_ret2
       exact ⟨_, by rw [HN.out]; rfl, ⟨_, _, _, rfl, by rw [HN.out]; exact SepD.nilAt rfl rfl ⟨hsz, by simp⟩⟩, hGz.alloc _ _⟩
      | true =>
       have HY := Lib.hid (setDef_yes HS.out hs5)
       have H5 := Lib.hid hs5; clear hs5
       go_wp2
       go_ret2
       exact ⟨_, by rw [HY.out]; rfl, ⟨_, _, _, rfl, by rw [HY.out]; exact ((hS5.grow hG6).grow hG7).weak fun b hb hF => ⟨hF.1, hb⟩⟩, hGz⟩
   ·rw [if_neg hq] at hset
    go_wp2_with (at_builtin; refine wpList_app rfl (.tmp 46) (.tmp 48) _ rfl T_defs rfl (hO4.grow ((Grow.refl _).alloc _ _)) rfl (Row.builtAt (S := fun _ => True) 1 (by simp) (by unfold maxLen; omega) rfl fun _ => trivial) (by simp [Value.oneCell']) (by omega) (by unfold maxLen; omega) ?_; intro a3 c3 w5 hA3)
    have hGz := (Grow.refl w4).alloc #[.string d.name, .int .i64 d.op, .string d.a, .string d.b, .int .i64 d.value.rows, .int .i64 d.value.cols, .slice am d.value.cells.length cm] 30
    have hS5 := SepD.app ((hI4.grow hGz).weak fun b hb hF hne => ⟨⟨hF.1, hb⟩, hne⟩) hlS hokS (fun g hg => ⟨(hlo4 g hg).1, Nat.lt_of_lt_of_le (hlo4 g hg).2 hGz.size⟩) (om4.grow hGz) hv.rng hok hFr (by have := hGz.size; omega) hA3
    rw [← hset] at hS5
    have hGW : Grow w w5 := hA3.grow (hG04.alloc _ _) (fun g hg => (hlo4 g hg).1)
    clear hO4 hI4 hset hA3
    go_wp2_with fail
    refine (specIsSheet_c _ _ _ l _ (h.grow hGW) hn hcl).mono ?_
    rintro e w6 ⟨rfl, hG6⟩
    cases hs : sheetB l with
    | false =>
     have HN := Lib.hid (setDef_no (l := l) (d := d) (by rw [hs]; rfl))
     have H5 := Lib.hid hs; clear hs
     have hsz := (hGW.trans hG6).size
     go_wp2
     go_ret2
     exact ⟨_, by rw [HN.out]; rfl, ⟨_, _, _, rfl, by rw [HN.out]; exact SepD.nilAt rfl rfl ⟨hsz, by simp⟩⟩, (hGW.trans hG6).alloc _ _⟩
    | true =>
     have hl12 := sheet_len hs
     have HS := Lib.hid hs; clear hs
     go_wp2_with fail
     refine (specIsSheet_c _ _ _ (setDefL l d) _ ((hS5.grow hG6).rdD (S := fun _ => True) fun _ _ => trivial) (by omega) hclS).mono ?_
     rintro e w7 ⟨rfl, hG7⟩
     have hGz := (hGW.trans hG6).trans hG7
     have hsz := hGz.size
     cases hs5 : sheetB (setDefL l d) with
     | false =>
      have HN := Lib.hid (setDef_no (l := l) (d := d) (by rw [hs5]; simp))
      have H5 := Lib.hid hs5; clear hs5
      go_wp2
      go_ret2
      exact ⟨_, by rw [HN.out]; rfl, ⟨_, _, _, rfl, by rw [HN.out]; exact SepD.nilAt rfl rfl ⟨hsz, by simp⟩⟩, hGz.alloc _ _⟩
     | true =>
      have HY := Lib.hid (setDef_yes HS.out hs5)
      have H5 := Lib.hid hs5; clear hs5
      go_wp2
      go_ret2
      exact ⟨_, by rw [HY.out]; rfl, ⟨_, _, _, rfl, by rw [HY.out]; exact ((hS5.grow hG6).grow hG7).weak fun b hb hF => ⟨hF.1, hb⟩⟩, hGz⟩
end Go.Proofs.Ytgeoehnbpkediaa
