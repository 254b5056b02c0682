/-
  ComplexOf: the reference's walk.
-/
import Derived.Test.YteijmppjdljedaaZCplx
namespace Go.Proofs.Yteijmppjdljedaa
open Go.RowKit

theorem RdCells.snoc {w : World} {S : Nat → Prop} {vs : List Value} {l : List (List Int)} {b : Option Addr} {c : Nat} {s : List Int} (h : RdCells w S vs l) (hl : vs.length = l.length) (hs : RdI w S b s.length c s) : RdCells w S (vs ++ [.slice b s.length c]) (l ++ [s]) := by
  have := h.put (k := l.length) hl (Nat.le_refl _) hs
  have h1 : vs.take l.length = vs := List.take_of_length_le (by omega)
  have h2 : vs.drop l.length = [] := List.drop_of_length_le (by omega)
  rw [h1, h2, List.take_length, List.drop_length, List.append_nil, List.append_nil] at this
  exact this
/-- Slices that lie outside the row's own block. -/
theorem RdCells.app {w2 w3 : World} {e : TypeId} {a a3 b : Option Addr} {n c3 c : Nat} {vs : List Value} {T : List (List Int)} {s : List Int} {cs : List Value} (h : RdCells w2 (fun q => blk a ≠ some q) vs T) (hl : vs.length = T.length) (hs : RdI w2 (fun q => blk a ≠ some q) b s.length c s)
    (hA : Apped w2 w3 e 1 a a3 n c3 cs) : RdCells w3 (fun q => blk a3 ≠ some q) (vs ++ [.slice b s.length c]) (T ++ [s]) := by
  have key : ∀ q, q < w2.heap.size → blk a ≠ some q → blk a3 ≠ some q := fun q hq hne e => by
    rcases hA.new with e2 | ⟨g, e2, hg⟩
    · rw [e2] at e; exact hne e
    · rw [e2] at e; have := Option.some.inj e; omega
  have h1 := (h.weak (T := fun q => q < w2.heap.size ∧ blk a ≠ some q) fun q hq hb => ⟨hq, hb⟩).keep hA.keep (fun q _ hb => hb.2)
  have h2 := (hs.weak (T := fun q => q < w2.heap.size ∧ blk a ≠ some q) fun q hq hb => ⟨hq, hb⟩).keep hA.keep (fun q _ hb => hb.2)
  exact (h1.weak fun q _ hb => key q hb.1 hb.2).snoc hl (h2.weak fun q _ hb => key q hb.1 hb.2)
theorem RdII.away {w2 w3 : World} {e : TypeId} {a a3 : Option Addr} {n c3 : Nat} {cs : List Value} {b : Option Addr} {m c : Nat} {l : List (List Int)} (h : RdII w2 (fun q => blk a ≠ some q) b m c l) (hA : Apped w2 w3 e 1 a a3 n c3 cs) : RdII w3 (fun q => blk a3 ≠ some q) b m c l := by
  have key : ∀ q, q < w2.heap.size → blk a ≠ some q → blk a3 ≠ some q := fun q hq hne e => by
    rcases hA.new with e2 | ⟨g, e2, hg⟩
    · rw [e2] at e; exact hne e
    · rw [e2] at e; have := Option.some.inj e; omega
  exact ((h.weak (T := fun q => q < w2.heap.size ∧ blk a ≠ some q) fun q hq hb => ⟨hq, hb⟩).keep hA.keep (fun q _ hb => hb.2)).weak fun q _ hb => key q hb.1 hb.2
theorem RdII.away2 {B : Nat} {w2 w3 : World} {e : TypeId} {a a3 : Option Addr} {n c3 : Nat} {cs : List Value} {b : Option Addr} {m c : Nat} {l : List (List Int)} (h : RdII w2 (fun q => blk a ≠ some q ∧ B ≤ q) b m c l) (hA : Apped w2 w3 e 1 a a3 n c3 cs) : RdII w3 (fun q => blk a3 ≠ some q ∧ B ≤ q) b m c l := by
  have key : ∀ q, q < w2.heap.size → blk a ≠ some q → blk a3 ≠ some q := fun q hq hne e => by
    rcases hA.new with e2 | ⟨g, e2, hg⟩
    · rw [e2] at e; exact hne e
    · rw [e2] at e; have := Option.some.inj e; omega
  exact ((h.weak (T := fun q => q < w2.heap.size ∧ blk a ≠ some q ∧ B ≤ q) fun q hq hb => ⟨hq, hb⟩).keep hA.keep (fun q _ hb => hb.2.1)).weak fun q _ hb => ⟨key q hb.1 hb.2.1, hb.2.2⟩

set_option maxHeartbeats 1000000 in
set_option maxRecDepth 100000 in
theorem specComplexOf_c {S : Nat → Prop} (a : Option Addr) (n cap : Nat) (l : List (List Int)) (w : World) (h : RdII w S a n cap l) (hn : n ≤ 1048576) (ht : total l ≤ 1048576) :
    Calls Try.prog 28 #[.slice a n cap] w fun e w' => ∃ a' m c', e = .returned (.tuple #[.slice a' m c', .bool (cplxOk l)]) ∧ RdII w' (fun b => w.heap.size ≤ b) a' m c' (cplxOut l) ∧ Grow w w' := by
  have Hl := Lib.hid h.len
  replace h := h.weak (T := fun b => b < w.heap.size) fun _ hb _ => hb
  obtain ⟨wz, hwz⟩ : ∃ wz, wz = (w.alloc (.cells #[] 32)).alloc (.cells #[] 32) := ⟨_, rfl⟩
  have hGz : Grow w wz := by rw [hwz]; exact ((Grow.refl _).alloc _ _).alloc _ _
  have hT0 : Own wz 32 1 (some ⟨w.heap.size + 1, 0, none⟩) 0 0 [] := by rw [hwz]; exact Own.freshAt (by simp) (by unfold maxLen; omega) rfl
  have Hwz := Lib.hid hwz; clear hwz
  by_cases h96 : n ≤ 96
  · go_enter Try.func28, Try.ntmps28
    go_wp2
    rw [← Hwz.out]
    go_loopw [5, 6] (fun u i wr => Grow w wr ∧ ∃ (j c1 : Nat) (a1 : Option Addr) (vs : List Value), j ≤ n ∧ i = .int .i64 j ∧ u = .slice a1 j c1 ∧ (∀ g, blk a1 = some g → w.heap.size < g) ∧ Own wr 32 1 a1 j c1 vs ∧ RdCells wr (fun q => blk a1 ≠ some q) vs (l.take j) ∧ ∀ x ∈ l.take j, isSimpB x = true) (fun _ i _ => n - (intOf i).toNat)
    case atStart => exact ⟨hGz, 0, 0, _, [], Nat.zero_le _, rfl, rfl, fun g hg => by simp at hg; omega, hT0, RdCells.nilw, by simp⟩
    case round =>
      clear hT0 hGz
      obtain ⟨hG, j, c1, a1, vs, hj, rfl, rfl, hlo, hO, hC, hsi⟩ := hrel
      have Hsi := Lib.hid hsi; clear hsi
      by_cases hlt : j < n
      · obtain ⟨b, off, s, sa, sc, rfl, hs, hSb, hbw, hc, rs⟩ := (h.grow hG).at hlt
        have hts := total_at hs
        have Hs := Lib.hid hs; clear hs
        cases hsimp : isSimpB s with
        | false =>
          have hcf : cplxOk l = false := by
            unfold cplxOk
            rw [List.all_eq_false.2 ⟨s, List.mem_of_getElem? Hs.out, by simp [hsimp]⟩]; simp
          have he : cplxOut l = [] := by unfold cplxOut; rw [hcf]; rfl
          have Hcf := Lib.hid hcf
          have Hsm := Lib.hid hsimp; clear hsimp hcf
          go_wp2_with fail
          refine (specIsSimplex_c _ _ _ s _ rs (by omega)).mono ?_
          rintro e w1 ⟨rfl, hQ⟩
          rw [Hsm.out]
          have hGE := hG.trans hQ.grow
          go_wp2
          go_ret2
          exact ⟨_, _, _, by rw [Hcf.out]; rfl, by rw [he]; exact ⟨⟨[], Row.emptyAt, fun i xs hi => by simp at hi⟩, rfl⟩, hGE.alloc _ _⟩
        | true =>
          have Hsm := Lib.hid hsimp; clear hsimp
          go_wp2_with fail
          refine (specIsSimplex_c _ _ _ s _ rs (by omega)).mono ?_
          rintro e w1 ⟨rfl, hQ⟩
          rw [Hsm.out]
          have hG1 := hQ.grow
          have hc1 := hG1.cell hc
          have hGz := (Grow.refl w1).alloc #[.slice sa s.length sc] 32
          have hsw := (hG.trans hG1).size
          go_wp2_with (at_builtin; refine wpList_app rfl (.tmp 29) (.tmp 34) _ rfl T_intss rfl ((hO.grow hG1).grow hGz) rfl (Row.built (S := fun _ => True) 1 (by unfold maxLen; omega) rfl trivial) (by simp [Value.oneCell']) (by omega) (by unfold maxLen; omega) ?_; intro a3 c3 w3 hA3)
          have hvl : vs.length = (l.take j).length := by have := hO.len; have := Hl.out; simp; omega
          have rs3 := (((rs.grow hG1).grow hGz).weak (T := fun q => blk a1 ≠ some q) fun q _ hq e => by have := hlo q e; omega)
          have hC3 := RdCells.app ((hC.grow hG1).grow hGz) hvl rs3 hA3
          rw [← take_succ Hs.out] at hC3
          have hG3 : Grow w w3 := hA3.grow ((hG.trans hG1).trans hGz) (fun g hg => by have := hlo g hg; omega)
          have hl3 := hA3.lo (B := w.heap.size + 1) (by have := hGz.size; have := hlo; simp at *; omega) (fun g hg => hlo g hg)
          have hO3 := hA3.own
          clear hA3 hO hC rs3
          go_wp2
          go_roundw
          case rel =>
            refine ⟨hG3, j + 1, c3, a3, _, by omega, by go_num, rfl, fun g hg => hl3 g hg, hO3, hC3, fun x hx => ?_⟩
            rw [take_succ Hs.out, List.mem_append, List.mem_singleton] at hx
            rcases hx with hx | rfl
            · exact Hsi.out x hx
            · exact Hsm.out
          case measure => simp [intOf]; omega
      · have hjn : j = n := by omega
        subst hjn
        rw [take_all Hl.out] at hC
        have hsim : ∀ s ∈ l, isSimpB s = true := by have := Hsi.out; rwa [take_all Hl.out] at this
        have hln := Hl.out
        have hwk := Work.start fun s hs => simp_len (hsim s hs)
        have h4 : ∀ s ∈ l, s.length ≤ 4 := fun s hs => (simp_len (hsim s hs)).2
        have Hok := Lib.hid (show cplxOk l = isCplxB (ordOf (partsAll l)) by
          unfold cplxOk
          rw [decide_eq_true (by omega), List.all_eq_true.2 hsim]; rfl)
        clear Hsi hsim
        go_wp2
        go_loopw [4, 5, 7] (fun uo ut i wr => Grow w wr ∧ ∃ (q m ct co mo : Nat) (ta oa : Option Addr) (T : List (List Int)) (vs : List Value), q ≤ m ∧ T.length = m ∧ i = .int .i64 q ∧ ut = .slice ta m ct ∧ uo = .slice oa mo co ∧ (∀ g, blk ta = some g → w.heap.size < g) ∧ Own wr 32 1 ta m ct vs ∧ RdCells wr (fun b => blk ta ≠ some b) vs T ∧ Work l T q ∧ RdII wr (fun b => blk ta ≠ some b ∧ w.heap.size ≤ b) oa mo co (ordOf (T.take q))) (fun _ _ i _ => 4000 - (intOf i).toNat)
        case atStart =>
          exact ⟨hG, 0, j, c1, 0, 0, a1, _, l, vs, Nat.zero_le _, hln, rfl, rfl, rfl, hlo, hO, hC, hwk, ⟨⟨[], Row.emptyAt, fun i xs hi => by simp [ordOf] at hi⟩, rfl⟩⟩
        case round =>
          clear hG hlo hO hC hwk
          obtain ⟨hG, q, m, ct, co, mo, ta, oa, T, vs, hq, hTl, rfl, rfl, rfl, hlo, hO, hC, hwk, hD⟩ := hrel
          have hTb := hwk.len (by omega)
          have hsh := hwk.short h4
          by_cases hqm : q < m
          · obtain ⟨y, hy⟩ : ∃ y, T[q]? = some y := ⟨_, List.getElem?_eq_getElem (by omega)⟩
            have hyl := hsh y (List.mem_of_getElem? hy)
            have hst := hwk.step hy
            have hol := ordOf_len (T.take q)
            have hot := total_small (c := 4) (l := ordOf (T.take q)) fun x hx => (hsh x (List.mem_of_mem_take (mem_ordOf.1 hx))).2
            have hDl := hD.len
            have hns := ordOf_snoc (T.take q) y
            rw [← take_succ hy] at hns
            simp only [List.length_take] at hol
            cases ta with
            | none => have := hO.nil rfl; have := hO.le; omega
            | some p =>
              have hp := (hO.block p rfl).1
              obtain ⟨pb, po, ps⟩ := p
              simp only [Addr.mk.injEq, true_and] at hp
              obtain ⟨rfl, rfl⟩ := hp
              have hplt := hO.lt (g := pb) rfl
              obtain ⟨ya, yc, hv, ry⟩ := hC q y hy
              have hce := hO.cell hv
              simp only at hce
              have Hy := Lib.hid hy; clear hy hv
              go_wp2_with fail
              refine (l32Put_c _ _ _ _ _ _ _ y _ hD ry (by omega) (by omega) (by omega) (by omega)).mono ?_
              rintro e w1 ⟨oa2, mo2, co2, rfl, hD2, hG1⟩
              have hD3 := hD2.weak (T := fun b => blk (some (⟨pb, 0, none⟩ : Addr)) ≠ some b ∧ w.heap.size ≤ b) fun b _ hb => by
                rcases hb with hb | hb
                · exact hb
                · exact ⟨fun e => by simp at e; omega, by have := hG.size; omega⟩
              rw [← hns] at hD3
              have hO1 := hO.grow hG1
              have hC1 := hC.grow hG1
              clear hD hD2 hO hC ry hce hns hol hot hDl
              go_wp2
              go_loopw [5, 8] (fun ut i wr => Grow w wr ∧ ∃ (k ct : Nat) (ta : Option Addr) (vs : List Value), k ≤ y.length ∧ (y.length = 1 → k = 0) ∧ i = .int .i64 k ∧ ut = .slice ta (m + k) ct ∧ (∀ g, blk ta = some g → w.heap.size < g) ∧ Own wr 32 1 ta (m + k) ct vs ∧ RdCells wr (fun b => blk ta ≠ some b) vs (T ++ facesTo y k) ∧ RdII wr (fun b => blk ta ≠ some b ∧ w.heap.size ≤ b) oa2 mo2 co2 (ordOf (T.take (q + 1)))) (fun _ i _ => y.length - (intOf i).toNat)
              case atStart => exact ⟨hG.trans hG1, 0, ct, _, vs, Nat.zero_le _, fun _ => rfl, rfl, rfl, hlo, hO1, by rw [facesTo_zero, List.append_nil]; exact hC1, hD3⟩
              case round =>
                clear hG hG1 hO1 hC1 hD3 hlo
                obtain ⟨hG, k, ct, ta, vs, hk, hk1, rfl, rfl, hlo, hO, hC, hD⟩ := hrel
                have hTk : (T ++ facesTo y k).length = m + k := by simp [facesTo, hTl]
                cases ta with
                | none => have := hO.nil rfl; have := hO.le; omega
                | some p =>
                  have hp := (hO.block p rfl).1
                  obtain ⟨pb, po, ps⟩ := p
                  simp only [Addr.mk.injEq, true_and] at hp
                  obtain ⟨rfl, rfl⟩ := hp
                  have hplt := hO.lt (g := pb) rfl
                  obtain ⟨ya, yc, hv, ry⟩ := hC q y (by rw [List.getElem?_append_left (by omega)]; exact Hy.out)
                  have hce := hO.cell hv
                  simp only at hce
                  clear hv
                  by_cases hgo : k < y.length ∧ 1 < y.length
                  · obtain ⟨hky, h1⟩ := hgo
                    go_wp2_with fail
                    refine (l32Face_c _ _ _ k y _ ry hky (by omega)).mono ?_
                    rintro e w2 ⟨fa, fc, rfl, o2, f2, hG2⟩
                    have hGz := (Grow.refl w2).alloc #[.slice fa (del y k).length fc] 32
                    have hsw := (hG.trans hG2).size
                    have hs2 := hG2.size
                    go_wp2_with (at_builtin; refine wpList_app rfl (.tmp 65) (.tmp 72) _ rfl T_intss rfl ((hO.grow hG2).grow hGz) rfl (Row.built (S := fun _ => True) 1 (by unfold maxLen; omega) rfl trivial) (by simp [Value.oneCell']) (by omega) (by unfold maxLen; omega) ?_; intro a3 c3 w3 hA3)
                    have hvl : vs.length = (T ++ facesTo y k).length := by have := hO.len; omega
                    have r2 := (o2.grow hGz).rdI (S := fun b => blk (some (⟨pb, 0, none⟩ : Addr)) ≠ some b) (fun g hg e => by have := f2 g hg; simp at e; omega) (fun z hz => ry.rng z (del_sub hz))
                    have hC3 := RdCells.app ((hC.grow hG2).grow hGz) hvl r2 hA3
                    rw [List.append_assoc, ← facesTo_succ] at hC3
                    have hD3 := RdII.away2 ((hD.grow hG2).grow hGz) hA3
                    have hG3 : Grow w w3 := hA3.grow ((hG.trans hG2).trans hGz) (fun g hg => by have := hlo g hg; omega)
                    have hl3 := hA3.lo (B := w.heap.size + 1) (by have := hGz.size; have := hlo pb rfl; omega) (fun g hg => hlo g hg)
                    have hO3 := hA3.own
                    clear hA3 hO hC r2 hD o2
                    go_wp2
                    go_roundw
                    case rel => exact ⟨hG3, k + 1, c3, a3, _, by omega, fun h => by omega, by go_num, rfl, fun g hg => hl3 g hg, hO3, hC3, hD3⟩
                    case measure => simp [intOf]; omega
                  · have hTn : T ++ facesTo y k = T ++ (if 1 < y.length then facesTo y y.length else []) := by
                      by_cases h1 : 1 < y.length
                      · rw [if_pos h1, show k = y.length by omega]
                      · rw [if_neg h1, hk1 (by omega), facesTo_zero]
                    rw [← hTn] at hst
                    have htk : (T ++ facesTo y k).take (q + 1) = T.take (q + 1) := by rw [List.take_append_of_le_length (by omega)]
                    rw [← htk] at hD
                    clear hTn
                    by_cases hky : k < y.length
                    · have h1 : ¬ 1 < y.length := fun h => hgo ⟨hky, h⟩
                      go_wp2
                      go_roundw
                      case rel => exact ⟨hG, q + 1, m + k, ct, co2, mo2, _, _, _, vs, by omega, hTk, by go_num, rfl, rfl, hlo, hO, hC, hst, hD⟩
                      case measure => simp [intOf]; omega
                    · go_wp2
                      go_roundw
                      case rel => exact ⟨hG, q + 1, m + k, ct, co2, mo2, _, _, _, vs, by omega, hTk, by go_num, rfl, rfl, hlo, hO, hC, hst, hD⟩
                      case measure => simp [intOf]; omega
          · have hfin := hwk.fin (by omega)
            rw [hfin] at hD
            have hol := ordOf_len (T.take q)
            have hot := total_small (c := 4) (l := ordOf (T.take q)) fun x hx => (hsh x (List.mem_of_mem_take (mem_ordOf.1 hx))).2
            rw [hfin] at hol hot
            simp only [List.length_take] at hol
            have hDl := hD.len
            cases hB : isCplxB (ordOf (partsAll l)) with
            | false =>
              have he : cplxOut l = [] := by unfold cplxOut; rw [Hok.out, hB]; rfl
              have Hcf := Lib.hid (Hok.out.trans hB)
              have HB := Lib.hid hB; clear hB
              go_wp2_with fail
              refine (specIsComplex_c _ _ _ _ _ hD (by omega) (by omega)).mono ?_
              rintro e w1 ⟨rfl, hG1⟩
              rw [HB.out]
              have hGE := hG.trans hG1
              go_wp2
              go_ret2
              exact ⟨_, _, _, by rw [Hcf.out]; rfl, by rw [he]; exact ⟨⟨[], Row.emptyAt, fun i xs hi => by simp at hi⟩, rfl⟩, hGE.alloc _ _⟩
            | true =>
              have he : cplxOut l = ordOf (partsAll l) := by unfold cplxOut; rw [Hok.out, hB]; rfl
              have Hcf := Lib.hid (Hok.out.trans hB)
              have HB := Lib.hid hB; clear hB
              go_wp2_with fail
              refine (specIsComplex_c _ _ _ _ _ hD (by omega) (by omega)).mono ?_
              rintro e w1 ⟨rfl, hG1⟩
              rw [HB.out]
              go_wp2
              go_ret2
              exact ⟨_, _, _, by rw [Hcf.out]; rfl, by rw [he]; exact (hD.grow hG1).weak fun _ _ hb => hb.2, hG.trans hG1⟩
  · have hcf : cplxOk l = false := by unfold cplxOk; rw [decide_eq_false (by rw [Hl.out]; exact h96)]; rfl
    have he : cplxOut l = [] := by unfold cplxOut; rw [hcf]; rfl
    have Hcf := Lib.hid hcf
    clear hcf
    go_enter Try.func28, Try.ntmps28
    go_wp2
    rw [← Hwz.out]
    go_loopw [5, 6] (fun u i wr => wr = wz ∧ i = .int .i64 0 ∧ u = .slice (some ⟨w.heap.size + 1, 0, none⟩) 0 0) (fun _ _ _ => 0)
    case atStart => exact ⟨rfl, rfl, rfl⟩
    case round =>
      obtain ⟨rfl, rfl, rfl⟩ := hrel
      go_wp2
      go_loopw [4, 5, 7] (fun uo ut i w' => w' = wr ∧ i = .int .i64 0 ∧ ut = .slice (some ⟨w.heap.size + 1, 0, none⟩) 0 0 ∧ uo = .slice (some ⟨w.heap.size, 0, none⟩) 0 0) (fun _ _ _ _ => 0)
      case atStart => exact ⟨rfl, rfl, rfl, rfl⟩
      case round =>
        obtain ⟨rfl, rfl, rfl, rfl⟩ := hrel
        have hD : RdII wr (fun _ => True) (some ⟨w.heap.size, 0, none⟩) 0 0 [] := ⟨⟨[], Row.emptyAt, fun i xs hi => by simp at hi⟩, rfl⟩
        generalize hB : isCplxB [] = bb at *
        have HB := Lib.hid hB; clear hB
        go_wp2_with fail
        refine (specIsComplex_c _ _ _ _ _ hD (by omega) (by simp)).mono ?_
        rintro e w1 ⟨rfl, hG1⟩
        rw [HB.out]
        have hGE := hGz.trans hG1
        cases bb with
        | false =>
          go_wp2
          go_ret2
          exact ⟨_, _, _, by rw [Hcf.out]; rfl, by rw [he]; exact ⟨⟨[], Row.emptyAt, fun i xs hi => by simp at hi⟩, rfl⟩, hGE.alloc _ _⟩
        | true =>
          go_wp2
          go_ret2
          exact ⟨_, _, _, by rw [Hcf.out]; rfl, by rw [he]; exact ⟨⟨[], Row.emptyAt, fun i xs hi => by simp at hi⟩, rfl⟩, hGE.alloc _ _⟩
end Go.Proofs.Yteijmppjdljedaa
