/-
  Whether a way along arrows leads around: the reference's function.
-/
import Derived.Test.YtkafhbedipfgpaaAcyc
namespace Go.Proofs.Ytkafhbedipfgpaa
open Go.RowKit

abbrev bools (l : List Bool) : List Value := l.map Value.bool
theorem bools_upd (l : List Bool) (i : Nat) (v : Bool) : bools (l.set i v) = (bools l).set i (.bool v) := by simp [bools, List.map_set]
theorem T_bools : SlT Try.prog 84 4 (.bool false) 1 1 := SlT.mk' Try.underlying84 (by kernel_rfl) rfl
theorem bools_at {g : List Bool} {j n : Nat} (h : g.length = n) (hj : j < n) : (bools g)[j]? = some (.bool (g.getD j false)) := by
  simp [List.getD, List.getElem?_eq_getElem (show j < g.length by omega)]
def freeTo (l : List Arw) (g : List Bool) (i j : Nat) : Bool := (List.range j).all fun j => !(!g.getD j false && goesB l i j)
theorem freeTo_succ (l : List Arw) (g : List Bool) (i j : Nat) : freeTo l g i (j + 1) = (freeTo l g i j && !(!g.getD j false && goesB l i j)) := by
  unfold freeTo; rw [List.range_succ, List.all_append]; simp

set_option maxHeartbeats 4000000 in
set_option maxRecDepth 100000 in
theorem l35Acyclic_c {S : Nat → Prop} (a : Option Addr) (n cap : Nat) (l : List Arw) (w : World) (h : RdA w S a n cap l) (hn : n ≤ 1048576) (ht : total (flat l) ≤ 1048576) :
    Calls Try.prog 83 #[.slice a n cap] w fun e w' => e = .returned (.bool (acycB l)) ∧ Grow w w' := by
  have hl := h.len
  have hmk := T_bools.make (n := n) (by omega) (by unfold maxLen; omega)
  have hG1 : Grow w (w.alloc (.cells (madeCells #[.bool false] n) 4)) := (Grow.refl w).alloc _ _
  have b1 : Own (w.alloc (.cells (madeCells #[.bool false] n) 4)) 4 1 (some ⟨w.heap.size, 0, none⟩) n n (bools (List.replicate n false)) := by
    have := Own.fresh (w := w) (e := 4) (sz := 1) (cs := madeCells #[.bool false] n) (n := n) (by unfold maxLen; omega) (by simp [madeCells])
    rw [toList_madeCells_one] at this
    simpa [bools] using this
  have hrd : RdA (w.alloc (.cells (madeCells #[.bool false] n) 4)) (fun q => q ≠ w.heap.size) a n cap l := ((h.weak (T := fun b => b < w.heap.size) (fun b hb _ => hb)).grow hG1).weak fun b _ hb => by omega
  obtain ⟨w1, hw1⟩ : ∃ w1, w1 = w.alloc (.cells (madeCells #[.bool false] n) 4) := ⟨_, rfl⟩
  rw [← hw1] at hG1 b1 hrd
  obtain ⟨sb, hsb⟩ : ∃ sb, sb = w.heap.size := ⟨_, rfl⟩
  have Hl := Lib.hid hl; have Hw1 := Lib.hid hw1
  clear hl hw1
  go_enter Try.func83, Try.ntmps83
  go_wp2
  rw [← Hw1.out]
  rw [← hsb] at b1 hrd ⊢
  have Hsb := Lib.hid hsb; clear hsb
  go_loopw [4] (fun q wr => Keep (fun q => q ≠ sb) w1 wr ∧ ∃ r : Nat, r ≤ n ∧ q = .int .i64 r ∧ Own wr 4 1 (some ⟨sb, 0, none⟩) n n (bools (peel l r))) (fun q _ => n - (intOf q).toNat)
  case atStart => exact ⟨Keep.refl _ _, 0, Nat.zero_le _, rfl, by unfold peel; rw [Hl.out]; exact b1⟩
  case round =>
    clear b1
    obtain ⟨hK, r, hr, rfl, hO⟩ := hrel
    by_cases hlt : r < n
    · obtain ⟨wo, rfl⟩ : ∃ wo : World, wo = wr := ⟨_, rfl⟩
      go_wp2
      go_loopw [5] (fun q wr => Keep (fun q => q ≠ sb) w1 wr ∧ ∃ i : Nat, i ≤ n ∧ q = .int .i64 i ∧ Own wr 4 1 (some ⟨sb, 0, none⟩) n n (bools (peelRow l i (peel l r)))) (fun q _ => n - (intOf q).toNat)
      case atStart => exact ⟨hK, 0, Nat.zero_le _, rfl, hO⟩
      case round =>
        clear hK hO
        obtain ⟨hK, i, hi, rfl, hO⟩ := hrel
        have hgl : (peelRow l i (peel l r)).length = n := by rw [peelRow_len, peel_len, Hl.out]
        by_cases hil : i < n
        · generalize hg : peelRow l i (peel l r) = g at *
          have Hg := Lib.hid hg; clear hg
          have Hgl := Lib.hid hgl; clear hgl
          obtain ⟨wp, rfl⟩ : ∃ wp : World, wp = wr := ⟨_, rfl⟩
          go_wp2
          go_loopw [6, 7] (fun fv q wr => Grow wp wr ∧ ∃ j : Nat, j ≤ n ∧ q = .int .i64 j ∧ fv = .bool (freeTo l g i j)) (fun _ q _ => n - (intOf q).toNat)
          case atStart => exact ⟨Grow.refl _, 0, Nat.zero_le _, rfl, rfl⟩
          case round =>
            obtain ⟨hGi, j, hj, rfl, rfl⟩ := hrel
            have hOr := hO.grow hGi
            by_cases hjl : j < n
            · have hRr := (hrd.keep hK fun _ _ h => h).grow hGi
              obtain ⟨b, off, x, y, a1, c1, a2, c2, rfl, hx, hbs, hbw, ⟨hc1, hc2⟩, r1, r2⟩ := hRr.at hjl
              obtain ⟨b', off', xi, yi, d1, e1, d2, e2, he, hxi, hbs', hbw', ⟨hd1, hd2⟩, s1, s2⟩ := hRr.at hil
              obtain ⟨rfl, rfl⟩ : b = b' ∧ off = off' := by simpa using he
              have hgo : goesB l i j = (decide (j ≠ i) && isFaceB x yi) := by unfold goesB; simp [List.getD, hx, hxi]
              have htx := (flat_total_at hx).2
              have hti := (flat_total_at hxi).2
              have hfs := freeTo_succ l g i j
              rw [hgo] at hfs
              have hcell := hOr.cell (bools_at Hgl.out hjl)
              simp only at hcell
              clear he hx hxi hc2 hd1 hgo
              by_cases hji : j = i
              · rw [show decide (j ≠ i) = false by simp [hji]] at hfs
                simp only [Bool.false_and, Bool.and_false, Bool.not_false, Bool.and_true] at hfs
                have hfs := Lib.hid hfs
                have q1 : ((j : Int) != (i : Int)) = false := by simp [hji]
                have hGi' := hGi.drew
                clear hji
                go_wp2
                refine wp_region_segs (S := Grow wr) [([0, 1, 2, 3, 4, 5, 6, 7, 8, 9, 10, 11, 12, 13, 14, 15, 16, 17, 18, 19, 20], some 21), ([22], none)] P_mixed (by kernel_rfl) (fun _ _ _ _ _ h => h) (Grow.refl _).drew ?_
                show wpQuiet _ _ _ _ [_, _, _, _, _, _, _, _, _, _, _, _, _, _, _, _, _, _, _, _, _] _
                repeat (first | go_big_quiet_skip | (go_big_quiet_want; first | (go_big_quiet_op; first | go_big_quiet_on | (refine ⟨_, (fun _ _ => rfl), ?_⟩; go_big_quiet_on))))
                refine wpQuiet_nil ?_
                refine seg_skip rfl ((Grow.refl _).drew) ?_
                show wpQuiet _ _ _ _ [_] _
                try (conv => arg 6; simp only [Act.put, List.setIfInBounds_toArray, List.set_cons_succ, List.set_cons_zero])
                repeat (first | go_big_quiet_skip | (go_big_quiet_want; first | (go_big_quiet_op; first | go_big_quiet_on | (refine ⟨_, (fun _ _ => rfl), ?_⟩; go_big_quiet_on))))
                refine wpQuiet_nil ?_
                refine wpSegs_nil ?_
                go_wp2
                go_roundw
                case rel => exact ⟨hGi', j + 1, by omega, by go_num, by rw [hfs.out]⟩
                case measure => simp [intOf]; omega
              · rw [show decide (j ≠ i) = true by simp [hji]] at hfs
                have q1 : ((j : Int) != (i : Int)) = true := by simp; omega
                cases hgj : g.getD j false with
                | true =>
                  rw [hgj] at hfs hcell
                  simp only [Bool.not_true, Bool.false_and, Bool.not_false, Bool.and_true] at hfs
                  have hfs := Lib.hid hfs
                  have hGi' := hGi.drew
                  clear hji hgj
                  go_wp2
                  refine wp_region_segs (S := Grow wr) [([0, 1, 2, 3, 4, 5, 6, 7, 8, 9, 10, 11, 12, 13, 14, 15, 16, 17, 18, 19, 20], some 21), ([22], none)] P_mixed (by kernel_rfl) (fun _ _ _ _ _ h => h) (Grow.refl _).drew ?_
                  show wpQuiet _ _ _ _ [_, _, _, _, _, _, _, _, _, _, _, _, _, _, _, _, _, _, _, _, _] _
                  repeat (first | go_big_quiet_skip | (go_big_quiet_want; first | (apply quiet_load CT_bool; rfl; rfl; exact (fun w' hG => hG.cell hcell); go_big_quiet_on; simp only [Act.put, List.setIfInBounds_toArray, List.set_cons_succ, List.set_cons_zero]) | (go_big_quiet_op; first | go_big_quiet_on | (refine ⟨_, (fun _ _ => rfl), ?_⟩; go_big_quiet_on))))
                  refine wpQuiet_nil ?_
                  refine seg_skip rfl ((Grow.refl _).drew) ?_
                  show wpQuiet _ _ _ _ [_] _
                  try (conv => arg 6; simp only [Act.put, List.setIfInBounds_toArray, List.set_cons_succ, List.set_cons_zero])
                  repeat (first | go_big_quiet_skip | (go_big_quiet_want; first | (apply quiet_load CT_bool; rfl; rfl; exact (fun w' hG => hG.cell hcell); go_big_quiet_on; simp only [Act.put, List.setIfInBounds_toArray, List.set_cons_succ, List.set_cons_zero]) | (go_big_quiet_op; first | go_big_quiet_on | (refine ⟨_, (fun _ _ => rfl), ?_⟩; go_big_quiet_on))))
                  refine wpQuiet_nil ?_
                  refine wpSegs_nil ?_
                  go_wp2
                  go_roundw
                  case rel => exact ⟨hGi', j + 1, by omega, by go_num, by rw [hfs.out]⟩
                  case measure => simp [intOf]; omega
                | false =>
                  rw [hgj] at hfs hcell
                  simp only [Bool.not_false, Bool.true_and] at hfs
                  clear hji hgj
                  go_wp2
                  refine wp_region_segs (S := Grow wr) [([0, 1, 2, 3, 4, 5, 6, 7, 8, 9, 10, 11, 12, 13, 14, 15, 16, 17, 18, 19, 20], some 21), ([22], none)] P_mixed (by kernel_rfl) (fun _ _ _ _ _ h => h) (Grow.refl _).drew ?_
                  show wpQuiet _ _ _ _ [_, _, _, _, _, _, _, _, _, _, _, _, _, _, _, _, _, _, _, _, _] _
                  repeat (first | go_big_quiet_skip | (go_big_quiet_want; first | (apply quiet_load CT_bool; rfl; rfl; exact (fun w' hG => hG.cell hcell); go_big_quiet_on; simp only [Act.put, List.setIfInBounds_toArray, List.set_cons_succ, List.set_cons_zero]) | (apply quiet_load CT_ints; rfl; rfl; exact (fun w' hG => hG.cell hc1); go_big_quiet_on; simp only [Act.put, List.setIfInBounds_toArray, List.set_cons_succ, List.set_cons_zero]) | (apply quiet_load CT_ints; rfl; rfl; exact (fun w' hG => hG.cell hd2); go_big_quiet_on; simp only [Act.put, List.setIfInBounds_toArray, List.set_cons_succ, List.set_cons_zero]) | (go_big_quiet_op; first | go_big_quiet_on | (refine ⟨_, (fun _ _ => rfl), ?_⟩; go_big_quiet_on))))
                  refine wpQuiet_nil ?_
                  refine seg_go rfl (fun K hK => ?_)
                  go_wp2_with fail
                  refine (l35Face_c _ _ _ _ _ _ x yi _ (r1.grow (Grow.refl _).drew) (s2.grow (Grow.refl _).drew) (by omega) (by omega)).mono ?_
                  rintro e w2 ⟨rfl, hG2⟩
                  have hG2' := (Grow.refl wr).drew.trans hG2
                  have hGi' := hGi.trans hG2'
                  cases hf : isFaceB x yi with
                  | true =>
                    rw [hf] at hfs
                    simp only [Bool.not_true, Bool.and_false] at hfs
                    have hfs := Lib.hid hfs
                    clear hf
                    go_wp2_with fail
                    refine hK _ _ (hG2') ?_
                    clear hK K
                    show wpQuiet _ _ _ _ [_] _
                    try (conv => arg 6; simp only [Act.put, List.setIfInBounds_toArray, List.set_cons_succ, List.set_cons_zero])
                    repeat (first | go_big_quiet_skip | (go_big_quiet_want; first | (apply quiet_load CT_bool; rfl; rfl; exact (fun w' hG => hG.cell hcell); go_big_quiet_on; simp only [Act.put, List.setIfInBounds_toArray, List.set_cons_succ, List.set_cons_zero]) | (apply quiet_load CT_ints; rfl; rfl; exact (fun w' hG => hG.cell hc1); go_big_quiet_on; simp only [Act.put, List.setIfInBounds_toArray, List.set_cons_succ, List.set_cons_zero]) | (apply quiet_load CT_ints; rfl; rfl; exact (fun w' hG => hG.cell hd2); go_big_quiet_on; simp only [Act.put, List.setIfInBounds_toArray, List.set_cons_succ, List.set_cons_zero]) | (go_big_quiet_op; first | go_big_quiet_on | (refine ⟨_, (fun _ _ => rfl), ?_⟩; go_big_quiet_on))))
                    refine wpQuiet_nil ?_
                    refine wpSegs_nil ?_
                    go_wp2
                    go_roundw
                    case rel => exact ⟨hGi', j + 1, by omega, by go_num, by rw [hfs.out]⟩
                    case measure => simp [intOf]; omega
                  | false =>
                    rw [hf] at hfs
                    simp only [Bool.not_false, Bool.and_true] at hfs
                    have hfs := Lib.hid hfs
                    clear hf
                    go_wp2_with fail
                    refine hK _ _ (hG2') ?_
                    clear hK K
                    show wpQuiet _ _ _ _ [_] _
                    try (conv => arg 6; simp only [Act.put, List.setIfInBounds_toArray, List.set_cons_succ, List.set_cons_zero])
                    repeat (first | go_big_quiet_skip | (go_big_quiet_want; first | (apply quiet_load CT_bool; rfl; rfl; exact (fun w' hG => hG.cell hcell); go_big_quiet_on; simp only [Act.put, List.setIfInBounds_toArray, List.set_cons_succ, List.set_cons_zero]) | (apply quiet_load CT_ints; rfl; rfl; exact (fun w' hG => hG.cell hc1); go_big_quiet_on; simp only [Act.put, List.setIfInBounds_toArray, List.set_cons_succ, List.set_cons_zero]) | (apply quiet_load CT_ints; rfl; rfl; exact (fun w' hG => hG.cell hd2); go_big_quiet_on; simp only [Act.put, List.setIfInBounds_toArray, List.set_cons_succ, List.set_cons_zero]) | (go_big_quiet_op; first | go_big_quiet_on | (refine ⟨_, (fun _ _ => rfl), ?_⟩; go_big_quiet_on))))
                    refine wpQuiet_nil ?_
                    refine wpSegs_nil ?_
                    go_wp2
                    go_roundw
                    case rel => exact ⟨hGi', j + 1, by omega, by go_num, by rw [hfs.out]⟩
                    case measure => simp [intOf]; omega
            · have hjn : j = n := by omega
              subst hjn
              have hcell := hOr.cell (bools_at Hgl.out hil)
              have hfr := hOr.free i
              simp only at hcell hfr
              have hO2 := hOr.set i (.bool (g.getD i false || freeTo l g i j))
              rw [← bools_upd] at hO2
              have hps := Lib.hid (show peelRow l (i + 1) (peel l r) = g.set i (g.getD i false || freeTo l g i j) by conv => { lhs; unfold peelRow }; rw [Hg.out]; unfold freeAt; rw [Hl.out]; rfl)
              have hKK := (hK.trans hGi.any)
              cases hgi : g.getD i false with
              | true =>
                rw [hgi] at hcell hO2 hps
                simp only [Bool.true_or] at hO2 hps
                clear hgi
                go_wp2
                go_roundw
                case rel => exact ⟨hKK.setCell (fun _ e => e rfl) _, i + 1, by omega, by go_num, by rw [hps.out]; exact hO2⟩
                case measure => simp [intOf]; omega
              | false =>
                rw [hgi] at hcell hO2 hps
                simp only [Bool.false_or] at hO2 hps
                clear hgi
                go_wp2
                go_roundw
                case rel => exact ⟨hKK.setCell (fun _ e => e rfl) _, i + 1, by omega, by go_num, by rw [hps.out]; exact hO2⟩
                case measure => simp [intOf]; omega
        · have hin : i = n := by omega
          subst hin
          go_wp2
          go_roundw
          case rel => exact ⟨hK, r + 1, by omega, by go_num, by conv => { arg 7; unfold peel }; rw [Hl.out]; exact hO⟩
          case measure => simp [intOf]; omega
    · have hrn : r = n := by omega
      subst hrn
      have hpl : (peel l r).length = r := by rw [peel_len, Hl.out]
      have hfin : acycB l = (peel l r).all id := by unfold acycB; rw [Hl.out]
      have hGf := hG1.keep hK fun q hq => by have := Hsb.out; omega
      generalize peel l r = g at *
      have Hgl := Lib.hid hpl; clear hpl
      have Hfin := Lib.hid hfin; clear hfin
      go_wp2
      go_loop [8] (fun q => ∃ j : Nat, j ≤ r ∧ q = .int .i64 j ∧ ∀ k : Nat, k < j → g.getD k false = true) (fun q => r - (intOf q).toNat)
      case atStart => exact ⟨0, Nat.zero_le _, rfl, fun _ h => by omega⟩
      case round =>
        obtain ⟨j, hj, rfl, hall⟩ := hrel
        have Hall := Lib.hid hall; clear hall
        by_cases hjl : j < r
        · have hcell := hO.cell (bools_at Hgl.out hjl)
          simp only at hcell
          cases hgj : g.getD j false with
          | true =>
            rw [hgj] at hcell
            have Hgj := Lib.hid hgj; clear hgj
            go_wp2
            go_round
            case rel =>
              refine ⟨j + 1, by omega, by go_num, fun k hk => ?_⟩
              by_cases e : k = j
              · subst e; exact Hgj.out
              · exact Hall.out k (by omega)
            case measure => simp [intOf]; omega
          | false =>
            rw [hgj] at hcell
            have Hgj := Lib.hid hgj; clear hgj
            go_wp2
            go_ret
            refine ⟨ret_bool ?_, hGf⟩
            rw [Hfin.out]; symm
            rw [List.all_eq_false]
            have hjg : j < g.length := by rw [Hgl.out]; exact hjl
            refine ⟨g[j], List.getElem_mem hjg, ?_⟩
            have := Hgj.out
            simp [List.getD, List.getElem?_eq_getElem hjg] at this
            simp [this]
        · go_wp2
          go_ret
          refine ⟨ret_bool ?_, hGf⟩
          rw [Hfin.out]; symm
          rw [List.all_eq_true]
          intro x hx
          obtain ⟨k, hk, rfl⟩ := List.mem_iff_getElem.1 hx
          have := Hall.out k (by rw [Hgl.out] at hk; omega)
          simp [List.getD, List.getElem?_eq_getElem hk] at this
          simp [this]
end Go.Proofs.Ytkafhbedipfgpaa
