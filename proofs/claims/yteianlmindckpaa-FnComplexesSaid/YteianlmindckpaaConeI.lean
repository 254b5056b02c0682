/-
  ConeOver: the program's walk.
-/
import Derived.Test.YteianlmindckpaaCone
import Derived.Test.YteianlmindckpaaSortI
import Derived.Test.YteianlmindckpaaCplxI
import Derived.Test.YteianlmindckpaaCplxS
namespace Go.Proofs.Yteianlmindckpaa
open Go.RowKit

/-- Two more in a row. -/
theorem RdCells.app2 {w2 w3 : World} {e : TypeId} {a a3 b b' : Option Addr} {n c3 c c' : Nat} {vs : List Value} {T : List (List Int)} {s t : List Int} {cs : List Value} (h : RdCells w2 (fun q => blk a ≠ some q) vs T) (hl : vs.length = T.length) (hs : RdI w2 (fun q => blk a ≠ some q) b s.length c s) (ht : RdI w2 (fun q => blk a ≠ some q) b' t.length c' t)
    (hA : Apped w2 w3 e 1 a a3 n c3 cs) : RdCells w3 (fun q => blk a3 ≠ some q) (vs ++ [.slice b s.length c, .slice b' t.length c']) (T ++ [s, t]) := by
  have key : ∀ q, q < w2.heap.size → blk a ≠ some q → blk a3 ≠ some q := fun q hq hne e => by
    rcases hA.new with e2 | ⟨g, e2, hg⟩
    · rw [e2] at e; exact hne e
    · rw [e2] at e; have := Option.some.inj e; omega
  have h1 := (h.weak (T := fun q => q < w2.heap.size ∧ blk a ≠ some q) fun q hq hb => ⟨hq, hb⟩).keep hA.keep (fun q _ hb => hb.2)
  have h2 := (hs.weak (T := fun q => q < w2.heap.size ∧ blk a ≠ some q) fun q hq hb => ⟨hq, hb⟩).keep hA.keep (fun q _ hb => hb.2)
  have h3 := (ht.weak (T := fun q => q < w2.heap.size ∧ blk a ≠ some q) fun q hq hb => ⟨hq, hb⟩).keep hA.keep (fun q _ hb => hb.2)
  have := ((h1.weak fun q _ hb => key q hb.1 hb.2).snoc hl (h2.weak fun q _ hb => key q hb.1 hb.2)).snoc (by simp [hl]) (h3.weak fun q _ hb => key q hb.1 hb.2)
  simpa using this
theorem coneIs_no {l : List (List Int)} {v : Int} (h : ¬ (isCplxB l = true ∧ (0 ≤ v ∧ v ≤ 9) ∧ [v] ∉ l)) : coneOk l v = false ∧ coneOut l v = [] := by
  have : coneIs l v = false := by
    unfold coneIs
    rw [Bool.eq_false_iff]
    intro e
    simp only [Bool.and_eq_true, decide_eq_true_eq] at e
    exact h ⟨e.1, e.2.1, e.2.2⟩
  constructor
  · unfold coneOk; rw [this]; rfl
  · unfold coneOut; rw [this]; rfl
theorem coneIs_yes {l : List (List Int)} {v : Int} (h : isCplxB l = true) (h1 : 0 ≤ v ∧ v ≤ 9) (h2 : [v] ∉ l) : coneOk l v = cplxOk (coneAll l v) ∧ coneOut l v = cplxOut (coneAll l v) := by
  have : coneIs l v = true := by
    unfold coneIs
    rw [h, decide_eq_true h1, decide_eq_true h2]; rfl
  constructor
  · unfold coneOk; rw [this]; rfl
  · unfold coneOut; rw [this]; rfl
theorem Own.someAt {w : World} {e : TypeId} {sz n cap : Nat} {a : Option Addr} {cs : List Value} (h : Own w e sz a n cap cs) (hn : 0 < n) : ∃ g, a = some ⟨g, 0, none⟩ := by
  cases a with
  | none => have := h.nil rfl; have := h.le; omega
  | some p => exact ⟨p.block, by rw [← (h.block p rfl).1]⟩
theorem copy_facts {w4 w5 : World} {a5 : Option Addr} {c5 : Nat} {s : List Int} (h : Apped (w4.alloc (.cells #[] 3)) w5 3 1 (some ⟨w4.heap.size, 0, none⟩) a5 (0 + s.length) c5 ([] ++ ints s)) :
    Own w5 3 1 a5 s.length c5 (ints s) ∧ Grow w4 w5 ∧ ∀ q, blk a5 = some q → w4.heap.size ≤ q :=
  ⟨by simpa using h.own, h.grow ((Grow.refl w4).alloc _ _) (fun g hg => by simp at hg; omega), h.lo (B := w4.heap.size) (by simp) (fun g hg => by simp at hg; omega)⟩

set_option maxHeartbeats 2000000 in
set_option maxRecDepth 100000 in
theorem implConeOver_c {S : Nat → Prop} (a : Option Addr) (n cap : Nat) (l : List (List Int)) (v : Int) (w : World) (h : RdII w S a n cap l) (hn : n ≤ 1048576) (ht : total l ≤ 1048576) (hv : I64 v) :
    Calls Try.prog 8 #[.slice a n cap, .int .i64 v] w fun e w' => ∃ a' m c', e = .returned (.tuple #[.slice a' m c', .bool (coneOk l v)]) ∧ SepII w' (New w w') a' m c' (coneOut l v) ∧ Grow w w' := by
  have Hl := Lib.hid h.len
  cases hB : isCplxB l with
  | false =>
    have Hno := Lib.hid (coneIs_no (l := l) (v := v) (by rw [hB]; simp))
    have HB := Lib.hid hB; clear hB
    go_enter Try.func8, Try.ntmps8
    go_wp2_with fail
    refine (implIsComplex_c _ _ _ l _ h hn ht).mono ?_
    rintro e w1 ⟨rfl, hGE⟩
    rw [HB.out]
    go_wp2
    go_ret2
    exact ⟨_, _, _, by rw [Hno.out.1]; rfl, by rw [Hno.out.2]; exact ⟨⟨[], Own.freshAt rfl (by unfold maxLen; omega) rfl, Inner.nilw⟩, fun g hg => by simp at hg; subst hg; exact ⟨hGE.size, by simp⟩⟩, hGE.alloc _ _⟩
  | true =>
    have h96 := cplx_len hB
    have hsi := (isCplxB_iff.1 hB).1.1
    have hln := Hl.out
    rw [hln] at h96
    have HB := Lib.hid hB; clear hB hln
    by_cases hv0 : v < 0
    · have Hno := Lib.hid (coneIs_no (l := l) (v := v) (by rintro ⟨_, h, _⟩; omega))
      go_enter Try.func8, Try.ntmps8
      go_wp2_with fail
      refine (implIsComplex_c _ _ _ l _ h hn ht).mono ?_
      rintro e w1 ⟨rfl, hGE⟩
      rw [HB.out]
      go_wp2
      go_ret2
      exact ⟨_, _, _, by rw [Hno.out.1]; rfl, by rw [Hno.out.2]; exact ⟨⟨[], Own.freshAt rfl (by unfold maxLen; omega) rfl, Inner.nilw⟩, fun g hg => by simp at hg; subst hg; exact ⟨hGE.size, by simp⟩⟩, hGE.alloc _ _⟩
    · by_cases hv9 : 9 < v
      · have Hno := Lib.hid (coneIs_no (l := l) (v := v) (by rintro ⟨_, h, _⟩; omega))
        go_enter Try.func8, Try.ntmps8
        go_wp2_with fail
        refine (implIsComplex_c _ _ _ l _ h hn ht).mono ?_
        rintro e w1 ⟨rfl, hGE⟩
        rw [HB.out]
        go_wp2
        go_ret2
        exact ⟨_, _, _, by rw [Hno.out.1]; rfl, by rw [Hno.out.2]; exact ⟨⟨[], Own.freshAt rfl (by unfold maxLen; omega) rfl, Inner.nilw⟩, fun g hg => by simp at hg; subst hg; exact ⟨hGE.size, by simp⟩⟩, hGE.alloc _ _⟩
      · have hfl := findI_lo l [v]
        have hfm := findI_mem (l := l) (s := [v])
        generalize hfi : findI l [v] = fi at *
        have Hfi := Lib.hid hfi; clear hfi
        by_cases hm : [v] ∈ l
        · have Hno := Lib.hid (coneIs_no (l := l) (v := v) (by rintro ⟨_, _, h⟩; exact h hm))
          have hf0 := hfm.2 hm
          clear hfm hm
          go_enter Try.func8, Try.ntmps8
          go_wp2_with fail
          refine (implIsComplex_c _ _ _ l _ h hn ht).mono ?_
          rintro e w1 ⟨rfl, hG1⟩
          rw [HB.out]
          have hG2 := hG1.alloc #[.int .i64 v] 3
          have hRv : RdI (w1.alloc (.cells #[.int .i64 v] 3)) (fun _ => True) (some ⟨w1.heap.size, 0, none⟩) 1 1 [v] := ⟨Row.built 1 (by unfold maxLen; omega) rfl trivial, fun z hz => by simp at hz; subst hz; exact hv⟩
          go_wp2_with fail
          refine (indexOfSimplex_c _ _ _ _ _ _ l [v] _ (h.grow hG2) hRv (by omega) (by omega)).mono ?_
          rintro e w2 ⟨rfl, hG3⟩
          rw [Hfi.out]
          have hGE := hG2.trans hG3
          go_wp2
          go_ret2
          exact ⟨_, _, _, by rw [Hno.out.1]; rfl, by rw [Hno.out.2]; exact ⟨⟨[], Own.freshAt rfl (by unfold maxLen; omega) rfl, Inner.nilw⟩, fun g hg => by simp at hg; subst hg; exact ⟨hGE.size, by simp⟩⟩, hGE.alloc _ _⟩
        · have Hyes := Lib.hid (coneIs_yes HB.out ⟨by omega, by omega⟩ hm)
          have hf0 : fi = -1 := by
            have : ¬ 0 ≤ fi := fun h => hm (hfm.1 h)
            omega
          clear hfm hm hfl
          subst hf0
          go_enter Try.func8, Try.ntmps8
          go_wp2_with fail
          refine (implIsComplex_c _ _ _ l _ h hn ht).mono ?_
          rintro e w1 ⟨rfl, hG1⟩
          rw [HB.out]
          have hG2 := hG1.alloc #[.int .i64 v] 3
          have hRv : RdI (w1.alloc (.cells #[.int .i64 v] 3)) (fun _ => True) (some ⟨w1.heap.size, 0, none⟩) 1 1 [v] := ⟨Row.built 1 (by unfold maxLen; omega) rfl trivial, fun z hz => by simp at hz; subst hz; exact hv⟩
          go_wp2_with fail
          refine (indexOfSimplex_c _ _ _ _ _ _ l [v] _ (h.grow hG2) hRv (by omega) (by omega)).mono ?_
          rintro e w2 ⟨rfl, hG3⟩
          rw [Hfi.out]
          have hGE := hG2.trans hG3
          clear hRv hG1 hG2 hG3
          go_wp2
          go_loopw [6, 34] (fun u i wr => Grow w wr ∧ ∃ (j c1 : Nat) (a1 : Option Addr) (vs : List Value), j ≤ n ∧ i = .int .i64 j ∧ u = .slice a1 (1 + 2 * j) c1 ∧ (∀ g, blk a1 = some g → w.heap.size ≤ g) ∧ Own wr 37 1 a1 (1 + 2 * j) c1 vs ∧ RdCells wr (fun q => blk a1 ≠ some q) vs (coneAll (l.take j) v)) (fun _ i _ => n - (intOf i).toNat)
          case atStart =>
            have hOv : Own (w2.alloc (.cells #[.int .i64 v] 3)) 3 1 (some ⟨w2.heap.size, 0, none⟩) 1 1 (ints [v]) := Own.fresh (by unfold maxLen; omega) rfl
            refine ⟨(hGE.alloc _ _).alloc _ _, 0, 1, _, _, Nat.zero_le _, rfl, rfl, fun g hg => ?_, Own.freshAt (by simp) (by unfold maxLen; omega) rfl, ?_⟩
            · have := hGE.size; simp at hg; omega
            · intro i xs hi
              rw [List.take_zero, coneAll_nil] at hi
              cases i with
              | zero =>
                obtain rfl : [v] = xs := by simpa using hi
                exact ⟨_, _, rfl, (hOv.grow ((Grow.refl _).alloc _ _)).rdI (fun g hg e => by simp at hg e; omega) (fun z hz => by simp at hz; subst hz; exact hv)⟩
              | succ i => simp at hi
          case round =>
            clear hGE
            obtain ⟨hG, j, c1, a1, vs, hj, rfl, rfl, hlo, hO, hC⟩ := hrel
            have hcl := coneAll_len (l.take j) v
            by_cases hlt : j < n
            · obtain ⟨b, off, s, sa, sc, rfl, hs, _, hbw, hc, rs⟩ := (h.grow hG).at hlt
              have hsl := simp_len (hsi s (List.mem_of_getElem? hs))
              have Hs := Lib.hid hs; clear hs
              have hE : Own (wr.alloc (.cells #[] 3)) 3 1 (some ⟨wr.heap.size, 0, none⟩) 0 0 [] := Own.fresh (by unfold maxLen; omega) rfl
              go_wp2_with (first
                | (at_builtin; refine wpList_app rfl (.tmp 40) (.tmp 42) _ rfl T_ints rfl (hO2.grow ((Grow.refl _).alloc _ _)) rfl (Row.built (S := fun _ => True) 1 (by unfold maxLen; omega) rfl trivial) (by simp [Value.oneCell']) (by omega) (by unfold maxLen; omega) ?_; intro a3 c3 w3 hA3)
                | (at_builtin; refine wpList_app rfl (.tmp 38) (.tmp 39) _ rfl T_ints rfl hE rfl (rs.row.grow ((Grow.refl _).alloc _ _)) (ints_one _) (by omega) (by unfold maxLen; omega) ?_; intro a2 c2 w2 hA2; have hO2 : Own w2 3 1 a2 s.length c2 (ints s) := by simpa using hA2.own))
              have hG2 : Grow wr w2 := hA2.grow ((Grow.refl wr).alloc _ _) (fun g hg => by simp at hg; omega)
              have hB2 : ∀ q, blk a2 = some q → wr.heap.size ≤ q := hA2.lo (by simp) (fun g hg => by simp at hg; omega)
              have hG3 : Grow wr w3 := hA3.grow (hG2.alloc _ _) hB2
              have hB3 : ∀ q, blk a3 = some q → wr.heap.size ≤ q := hA3.lo (hG2.alloc _ _).size hB2
              have hO3 : Own w3 3 1 a3 (s.length + 1) c3 (ints (s ++ [v])) := by simpa [ints] using hA3.own
              clear hA2 hA3 hE
              obtain ⟨g3, rfl⟩ := hO3.someAt (by omega)
              have hg3 : wr.heap.size ≤ g3 := hB3 g3 rfl
              refine (sortInts_c _ _ _ _ _ hO3 (by omega)).mono ?_
              rintro e w4 ⟨rfl, hO4, hK4⟩
              have hG4 : Grow wr w4 := hG3.keep hK4 fun i hi e => by omega
              rw [show (s ++ [v]).mergeSort (fun x y => decide (x ≤ y)) = insB s v from rfl, ← insB_len s v] at hO4
              have hil := insB_len s v
              rw [← hil]
              have Hil := Lib.hid hil; clear hil
              clear hO3 hK4 hG3 hG2 hB2 hO2 hB3
              have hs4 := hG4.size
              have hbnd : 1 + 2 * j + 2 = 1 + 2 * (j + 1) := by omega
              have hE4 : Own (w4.alloc (.cells #[] 3)) 3 1 (some ⟨w4.heap.size, 0, none⟩) 0 0 [] := Own.fresh (by unfold maxLen; omega) rfl
              go_wp2_with (first
                | (at_builtin; refine wpList_app rfl (.tmp 46) (.tmp 51) _ rfl T_intss rfl (hO.grow ((hG4.trans hF5.2.1).alloc _ _)) rfl (Row.built (S := fun _ => True) 2 (by unfold maxLen; omega) rfl trivial) (by simp [Value.oneCell']) (by omega) (by unfold maxLen; omega) ?_; intro a6 c6 w6 hA6)
                | (at_builtin; refine wpList_app rfl (.tmp 47) (.tmp 48) _ rfl T_ints rfl hE4 rfl ((rs.grow hG4).row.grow ((Grow.refl _).alloc _ _)) (ints_one _) (by omega) (by unfold maxLen; omega) ?_; intro a5 c5 w5 hA5; have hF5 := copy_facts hA5))
              obtain ⟨hO5, hG45, hB5⟩ := hF5
              have hG5 := hG4.trans hG45
              have halt : ∀ q, blk a1 = some q → q < wr.heap.size := fun q hq => hO.lt hq
              have hvl : vs.length = (coneAll (l.take j) v).length := by have := hO.len; simp at this; rw [hcl, List.length_take]; have := Hl.out; omega
              have r5 := (hO5.grow ((Grow.refl _).alloc #[.slice a5 s.length c5, .slice (some ⟨g3, 0, none⟩) (insB s v).length c3] 37)).rdI (S := fun q => blk a1 ≠ some q) (fun g hg e => by have := hB5 g hg; have := halt g e; omega) rs.rng
              have rx := ((hO4.grow hG45).grow ((Grow.refl _).alloc #[.slice a5 s.length c5, .slice (some ⟨g3, 0, none⟩) (insB s v).length c3] 37)).rdI (S := fun q => blk a1 ≠ some q) (fun g hg e => by have := halt g e; simp at hg; omega) (insB_rng rs.rng hv)
              have hC6 := RdCells.app2 ((hC.grow hG5).grow ((Grow.refl _).alloc _ _)) hvl r5 rx hA6
              rw [show [s, insB s v] = coneRow v s from rfl, ← coneAll_succ v Hs.out] at hC6
              have hG6 : Grow w w6 := hA6.grow (hG.trans (hG5.alloc _ _)) hlo
              have hl6 := hA6.lo (B := w.heap.size) (by have := hG.size; have := hG5.size; simp; omega) hlo
              have hO6 := hA6.own
              rw [hbnd] at hO6
              clear hA6 hA5 hO hC r5 rx hO5 hE4 hG45
              go_wp2
              go_roundw
              case rel => exact ⟨hG6, j + 1, c6, a6, _, by omega, by go_num, rfl, hl6, hO6, hC6⟩
              case measure => simp [intOf]; omega
            · have hjn : j = n := by omega
              subst hjn
              rw [take_all Hl.out] at hC hcl
              have hsm := coneAll_small (v := v) fun s hs => (simp_len (hsi s hs)).2
              have htt := total_small hsm
              have hln := Hl.out
              have hR : RdII wr (fun _ => True) a1 (1 + 2 * j) c1 (coneAll l v) := ⟨⟨vs, hO.row (fun _ _ => trivial), hC.weak fun _ _ _ => trivial⟩, by omega⟩
              clear hO hC hsm
              go_wp2_with fail
              refine (implComplexOf_c _ _ _ _ _ hR (by omega) (by omega)).mono ?_
              rintro e w2 ⟨a', m, c', rfl, hS, hG2⟩
              go_wp2
              go_ret2
              exact ⟨_, _, _, by rw [Hyes.out.1]; rfl, by rw [Hyes.out.2]; exact hS.weak fun q hq hF => ⟨by have := hG.size; have := hF.1; omega, hF.2⟩, hG.trans hG2⟩
end Go.Proofs.Yteianlmindckpaa
