/-
  SetDef: plain part; owned definitions grow and change; the program's copy of definitions.
-/
import Derived.Test.YtlpkcdgkkjmagaaSheet
import Derived.Test.YtlpkcdgkkjmagaaCopyM
import Derived.Test.YtlpkcdgkkjmagaaDefK3
import Derived.Test.YtlpkcdgkkjmagaaMarkD
namespace Go.Proofs.Ytlpkcdgkkjmagaa
open Go.RowKit

def setDefL (l : List Dfn) (d : Dfn) : List Dfn := if 0 ≤ findName l d.name then l.set (findName l d.name).toNat d else l ++ [d]
def setDefB (l : List Dfn) (d : Dfn) : List Dfn × Bool := if sheetB l && sheetB (setDefL l d) then (setDefL l d, true) else ([], false)
theorem setDefL_mem {l : List Dfn} {d x : Dfn} (h : x ∈ setDefL l d) : x ∈ l ∨ x = d := by
  unfold setDefL at h
  split at h
  · exact List.mem_or_eq_of_mem_set h
  · simpa using h
theorem findName_lt {l : List Dfn} {s : ByteArray} : findName l s < l.length := (firstIdx_lo _ l).2
theorem setDefL_len (l : List Dfn) (d : Dfn) : (setDefL l d).length ≤ l.length + 1 := by
  unfold setDefL; split <;> simp
theorem setDef_no {l : List Dfn} {d : Dfn} (h : (sheetB l && sheetB (setDefL l d)) = false) : setDefB l d = ([], false) := by unfold setDefB; rw [h]; rfl
theorem setDef_yes {l : List Dfn} {d : Dfn} (h1 : sheetB l = true) (h2 : sheetB (setDefL l d) = true) : setDefB l d = (setDefL l d, true) := by unfold setDefB; rw [h1, h2]; rfl

theorem Row.builtAt {w : World} {S : Nat → Prop} {e : TypeId} {sz g : Nat} {cs : Array Value} (n : Nat) (hg : g = w.heap.size) (hn : n ≤ maxLen) (hs : cs.size = n * sz) (hS : ∀ b, S b) : Row (w.alloc (.cells cs e)) S sz (some ⟨g, 0, none⟩) n n cs.toList := by
  subst hg; exact Row.built n hn hs (hS _)
theorem Inner.repl {w : World} {F : Nat → Prop} {g : Option Nat} {vs : List Value} {xss : List (List Int)} (h : Inner w F g vs xss) {j : Nat} {b : Option Addr} {c : Nat} {xs : List Int} (ho : Own w 3 1 b xs.length c (ints xs)) (hr : ∀ x ∈ xs, I64 x)
    (hb : ∀ q, blk b = some q → F q ∧ g ≠ some q) (hnew : ∀ q, blk b = some q → ∀ v ∈ vs, v.ownBlock ≠ some q) : Inner w F g (vs.set j (.slice b xs.length c)) (xss.set j xs) := by
  refine ⟨by simp [h.len], fun i zs hi => ?_, ?_⟩
  · by_cases hij : j = i
    · subst hij
      obtain ⟨hj, _⟩ := List.getElem?_eq_some_iff.1 hi
      simp only [List.length_set] at hj
      rw [List.getElem?_set_self hj] at hi
      obtain rfl := Option.some.inj hi
      exact ⟨b, c, by rw [List.getElem?_set_self (by rw [h.len]; exact hj)], ho, hr, hb⟩
    · rw [List.getElem?_set_ne hij] at hi
      obtain ⟨b', c', h1, h2⟩ := h.each i zs hi
      exact ⟨b', c', by rw [List.getElem?_set_ne hij]; exact h1, h2⟩
  · rw [List.pairwise_iff_getElem]
    intro p q hp hq hpq u hu
    simp only [List.length_set] at hp hq
    rw [List.getElem_set] at hu ⊢
    split at hu
    · rename_i e
      rw [if_neg (by omega)]
      rw [ownBlock_slice] at hu
      exact hnew u hu _ (List.getElem_mem hq)
    · split
      · rw [ownBlock_slice]
        intro e
        exact hnew u e _ (List.getElem_mem hp) hu
      · exact List.pairwise_iff_getElem.1 h.apart p q hp hq hpq u hu

/-- The slice am is apart from all that the definitions own. -/
def Fresh (w0 : World) (a1 am : Option Addr) (ss : List Value) : Prop := ∀ q, blk am = some q → w0.heap.size ≤ q ∧ blk a1 ≠ some q ∧ ∀ v ∈ ss, v.ownBlock ≠ some q
theorem Fresh.mk' {w0 wr : World} {a1 am : Option Addr} {ss : List Value} {xss : List (List Int)} {G : Nat → Prop} (hI : Inner wr G (blk a1) ss xss) (hlo : ∀ g, blk a1 = some g → g < wr.heap.size) (h0 : w0.heap.size ≤ wr.heap.size) (hf : ∀ q, blk am = some q → wr.heap.size ≤ q) : Fresh w0 a1 am ss :=
  fun q hq => ⟨by have := hf q hq; omega, fun e => by have := hlo q e; have := hf q hq; omega, fun v hv e => by have := (hI.lt hv e).1; have := hf q hq; omega⟩
theorem SepD.app {w0 w2 w3 : World} {a1 a3 am : Option Addr} {k c3 cm : Nat} {L : List Dfn} {ss : List Value} {d : Dfn} (hI : Inner w2 (New w0 w2) (blk a1) ss (dvals L)) (hl : L.length = k) (hok : ∀ x ∈ L, DOk x) (hlo : ∀ g, blk a1 = some g → New w0 w2 g)
    (om : Own w2 3 1 am d.value.cells.length cm (ints d.value.cells)) (hr : ∀ x ∈ d.value.cells, I64 x) (hd : DOk d) (hfresh : Fresh w0 a1 am ss) (h0 : w0.heap.size ≤ w2.heap.size)
    (hA : Apped w2 w3 38 7 a1 a3 (k + 1) c3 (dAll L ss ++ dcell d (.slice am d.value.cells.length cm))) : SepD w3 (New w0 w3) a3 (k + 1) c3 (L ++ [d]) := by
  have hss : ss.length = L.length := by have := hI.len; simpa using this
  have hs3 := hA.keep.size
  have hl3 := hA.lo (B := w0.heap.size) (by omega) (fun g hg => (hlo g hg).1)
  refine ⟨⟨ss ++ [.slice am d.value.cells.length cm], ?_, ?_⟩, by simp [hl], fun x hx => ?_, fun g hg => ⟨hl3 g hg, hA.own.lt hg⟩⟩
  · rw [dAll_append hss, dAll_one]; exact hA.own
  · have h1 := hI.snoc om hr (fun q hq => ⟨⟨(hfresh q hq).1, om.lt hq⟩, (hfresh q hq).2.1⟩) (fun q hq v hv hvq => (hfresh q hq).2.2 v hv hvq)
    rw [dvals_append]
    refine h1.move (G := New w0 w3) (g' := blk a3) hA.keep fun b hb hF hne => ⟨hne, ⟨hF.1, by omega⟩, fun e => ?_⟩
    rcases hA.new with e2 | ⟨g', e2, hg'⟩
    · rw [e2] at e; exact hne e
    · rw [e2] at e
      obtain rfl := Option.some.inj e
      omega
  · rcases List.mem_append.1 hx with hx | hx
    · exact hok x hx
    · rw [List.mem_singleton] at hx; subst hx; exact hd
theorem SepD.put {w0 w2 : World} {g n c1 cm : Nat} {am : Option Addr} {L : List Dfn} {ss : List Value} {d : Dfn} {k : Nat} (hO : Own w2 38 7 (some ⟨g, 0, none⟩) n c1 (dAll L ss)) (hI : Inner w2 (New w0 w2) (some g) ss (dvals L)) (hl : L.length = n) (hok : ∀ x ∈ L, DOk x) (hlo : New w0 w2 g)
    (om : Own w2 3 1 am d.value.cells.length cm (ints d.value.cells)) (hr : ∀ x ∈ d.value.cells, I64 x) (hd : DOk d) (hfresh : Fresh w0 (some ⟨g, 0, none⟩) am ss) (hk : k < L.length) :
    SepD (((((((w2.setCell ⟨g, k * 7, none⟩ (.string d.name)).setCell ⟨g, k * 7 + 1, none⟩ (.int .i64 d.op)).setCell ⟨g, k * 7 + 2, none⟩ (.string d.a)).setCell ⟨g, k * 7 + 3, none⟩ (.string d.b)).setCell ⟨g, k * 7 + 4, none⟩ (.int .i64 d.value.rows)).setCell ⟨g, k * 7 + 5, none⟩ (.int .i64 d.value.cols)).setCell ⟨g, k * 7 + 6, none⟩ (.slice am d.value.cells.length cm)) (New w0 w2) (some ⟨g, 0, none⟩) n c1 (L.set k d) ∧
    Keep (fun q => q ≠ g) w2 (((((((w2.setCell ⟨g, k * 7, none⟩ (.string d.name)).setCell ⟨g, k * 7 + 1, none⟩ (.int .i64 d.op)).setCell ⟨g, k * 7 + 2, none⟩ (.string d.a)).setCell ⟨g, k * 7 + 3, none⟩ (.string d.b)).setCell ⟨g, k * 7 + 4, none⟩ (.int .i64 d.value.rows)).setCell ⟨g, k * 7 + 5, none⟩ (.int .i64 d.value.cols)).setCell ⟨g, k * 7 + 6, none⟩ (.slice am d.value.cells.length cm)) := by
  have hss : ss.length = L.length := by have := hI.len; simpa using this
  have hK : Keep (fun q => q ≠ g) w2 (((((((w2.setCell ⟨g, k * 7, none⟩ (.string d.name)).setCell ⟨g, k * 7 + 1, none⟩ (.int .i64 d.op)).setCell ⟨g, k * 7 + 2, none⟩ (.string d.a)).setCell ⟨g, k * 7 + 3, none⟩ (.string d.b)).setCell ⟨g, k * 7 + 4, none⟩ (.int .i64 d.value.rows)).setCell ⟨g, k * 7 + 5, none⟩ (.int .i64 d.value.cols)).setCell ⟨g, k * 7 + 6, none⟩ (.slice am d.value.cells.length cm)) :=
    (((((((Keep.refl _ w2).setCell (fun _ e => e rfl) _).setCell (fun _ e => e rfl) _).setCell (fun _ e => e rfl) _).setCell (fun _ e => e rfl) _).setCell (fun _ e => e rfl) _).setCell (fun _ e => e rfl) _).setCell (fun _ e => e rfl) _
  refine ⟨⟨⟨ss.set k (.slice am d.value.cells.length cm), hO.dset hss hk, ?_⟩, by simp [hl], fun x hx => ?_, fun q hq => by simp at hq; subst hq; exact hlo⟩, hK⟩
  · rw [dvals_set]
    have h1 := hI.repl (j := k) om hr (fun q hq => ⟨⟨(hfresh q hq).1, om.lt hq⟩, by simpa using (hfresh q hq).2.1⟩) (fun q hq v hv hvq => (hfresh q hq).2.2 v hv hvq)
    exact h1.keep hK fun b _ _ hne e => hne (by rw [e])
  · rcases List.mem_or_eq_of_mem_set hx with hx | rfl
    · exact hok x hx
    · exact hd
theorem SepD.nilAt {w : World} {F : Nat → Prop} {g : Nat} {cs : Array Value} (hg : g = w.heap.size) (hc : cs = #[]) (hF : F g) : SepD (w.alloc (.cells cs 38)) F (some ⟨g, 0, none⟩) 0 0 [] := by
  subst hc
  exact ⟨⟨[], Own.freshAt hg (by unfold maxLen; omega) rfl, Inner.nilw⟩, rfl, (fun _ h => by cases h), fun q hq => by simp at hq; subst hq; exact hF⟩

set_option maxHeartbeats 2000000 in
set_option maxRecDepth 100000 in
theorem copyDefs_c {S : Nat → Prop} (a : Option Addr) (n cap : Nat) (l : List Dfn) (w : World) (h : RdD w S a n cap l) (hb : bdDD l ≤ 1048576) :
    Calls Try.prog 46 #[.slice a n cap] w fun e w' => ∃ a' c', e = .returned (.slice a' n c') ∧ SepD w' (New w w') a' n c' l ∧ Grow w w' := by
  have Hl := Lib.hid h.len
  unfold bdDD at hb
  have hn : n ≤ 1048576 := by rw [← Hl.out]; omega
  go_enter Try.func46, Try.ntmps46
  go_wp2
  go_loopw [3, 9] (fun v i wr => Grow w wr ∧ ∃ (k c1 : Nat) (a1 : Option Addr), k ≤ n ∧ i = .int .i64 k ∧ v = .slice a1 k c1 ∧ SepD wr (New w wr) a1 k c1 (l.take k)) (fun _ i _ => n - (intOf i).toNat)
  case atStart =>
    refine ⟨(Grow.refl w).alloc _ _, 0, 0, _, Nat.zero_le _, rfl, rfl, ⟨⟨[], ?_, Inner.nilw⟩, rfl, (fun _ h => by cases h), fun g hg => ?_⟩⟩
    · exact Own.fresh (by unfold maxLen; omega) rfl
    · simp at hg; subst hg; exact ⟨Nat.le_refl _, by simp⟩
  case round =>
    obtain ⟨hG, k, c1, a1, hk, rfl, rfl, hS⟩ := hrel
    by_cases hlt : k < n
    · obtain ⟨b, off, d, av, cv, rfl, hx, _, hbw, ⟨e0, e1, e2, e3, e4, e5, e6⟩, r1, ho⟩ := (h.grow hG).at hlt
      have htot := (bdDs_at hx).2
      have hcd : d.value.cells.length ≤ 1048576 := by unfold bdD at htot; omega
      have Hx := Lib.hid hx; clear hx htot
      obtain ⟨wb, hwb⟩ : ∃ wb, wb = wr.alloc (.cells #[.string d.name, .int .i64 d.op, .string d.a, .string d.b, .int .i64 d.value.rows, .int .i64 d.value.cols, .slice av d.value.cells.length cv] 38) := ⟨_, rfl⟩
      have hGb : Grow wr wb := by rw [hwb]; exact (Grow.refl _).alloc _ _
      have hsb : wb.heap.size = wr.heap.size + 1 := by rw [hwb]; simp
      have hBb : Blk wb wr.heap.size #[.string d.name, .int .i64 d.op, .string d.a, .string d.b, .int .i64 d.value.rows, .int .i64 d.value.cols, .slice av d.value.cells.length cv] 38 := by rw [hwb]; exact Blk.new _ _ _
      have Hwb := Lib.hid hwb; clear hwb
      obtain ⟨⟨z0, z1, z2, z3, z4, z5, z6⟩, -⟩ := hBb.seven
      have hvm : VM wb S (.agg #[.int .i64 d.value.rows, .int .i64 d.value.cols, .slice av d.value.cells.length cv]) d.value := ⟨av, _, cv, rfl, r1.grow hGb, ho.2.2.2.2.1, ho.2.2.2.2.2⟩
      go_wp2_with fail
      rw [← Hwb.out]
      refine (copyMatrix_c hvm hcd).mono ?_
      rintro e w1 ⟨v', rfl, ⟨am, nm, cm, rfl, om, xm, fm, hmr, hmc⟩, hG1⟩
      have hnm : d.value.cells.length = nm := by simpa using om.len
      subst hnm
      have hB1 := hBb.grow hG1
      obtain ⟨⟨y0, y1, y2, y3, y4, y5, y6⟩, -⟩ := hB1.seven
      have f4 := hB1.free 4; have f5 := hB1.free 5; have f6 := hB1.free 6
      have hK : Keep (fun q => q ≠ wr.heap.size) w1 (((w1.setCell ⟨wr.heap.size, 4, none⟩ (.int .i64 d.value.rows)).setCell ⟨wr.heap.size, 5, none⟩ (.int .i64 d.value.cols)).setCell ⟨wr.heap.size, 6, none⟩ (.slice am d.value.cells.length cm)) :=
        (((Keep.refl _ w1).setCell (fun _ e => e rfl) _).setCell (fun _ e => e rfl) _).setCell (fun _ e => e rfl) _
      have hGk : Grow wr (((w1.setCell ⟨wr.heap.size, 4, none⟩ (.int .i64 d.value.rows)).setCell ⟨wr.heap.size, 5, none⟩ (.int .i64 d.value.cols)).setCell ⟨wr.heap.size, 6, none⟩ (.slice am d.value.cells.length cm)) := (hGb.trans hG1).keep hK fun q hq => by omega
      have omk := om.keep hK (fun g hg _ e => by have := (fm g hg).1; omega)
      have hfr : ∀ q, blk am = some q → wr.heap.size ≤ q := fun q hq => by have := (fm q hq).1; omega
      have hsw := hG.size
      clear hG1 hGb hK om fm hB1
      obtain ⟨⟨ss, hO, hI⟩, hlS, hokS, hloS⟩ := hS
      have hOk := hO.grow hGk
      go_wp2_with (at_builtin; refine wpList_app rfl (.tmp 17) (.tmp 19) _ rfl T_defs rfl (hOk.grow ((Grow.refl _).alloc _ _)) rfl (Row.builtAt (S := fun _ => True) 1 (by simp) (by unfold maxLen; omega) rfl fun _ => trivial) (by simp [Value.oneCell']) (by omega) (by unfold maxLen; omega) ?_; intro a3 c3 w3 hA3)
      have hGz := hGk.alloc #[.string d.name, .int .i64 d.op, .string d.a, .string d.b, .int .i64 d.value.rows, .int .i64 d.value.cols, .slice am d.value.cells.length cm] 38
      have hS3 := SepD.app ((hI.grow hGz).weak fun b hb hF hne => ⟨⟨hF.1, hb⟩, hne⟩) hlS hokS (fun g hg => ⟨(hloS g hg).1, Nat.lt_of_lt_of_le (hloS g hg).2 hGz.size⟩) (omk.grow ((Grow.refl _).alloc _ _)) r1.rng ho (Fresh.mk' hI (fun g hg => (hloS g hg).2) hsw hfr) (by have := hGz.size; omega) hA3
      have hG3 : Grow w w3 := hA3.grow (hG.trans (hGk.alloc _ _)) (fun g hg => (hloS g hg).1)
      rw [← take_succ Hx.out] at hS3
      clear hA3
      go_wp2
      go_roundw
      case rel => exact ⟨hG3, k + 1, c3, a3, by omega, by go_num, rfl, hS3⟩
      case measure => simp [intOf]; omega
    · go_wp2
      go_ret
      have : k = n := by omega
      subst this
      rw [take_all Hl.out] at hS
      exact ⟨_, _, rfl, hS, hG⟩
end Go.Proofs.Ytlpkcdgkkjmagaa
