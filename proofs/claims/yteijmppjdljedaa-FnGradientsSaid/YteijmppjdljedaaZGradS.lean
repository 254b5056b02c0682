/-
  GradientOf: the reference's walk.
-/
import Derived.Test.YteijmppjdljedaaZGradI
namespace Go.Proofs.Yteijmppjdljedaa
open Go.RowKit

def uRow (l : List (List Int)) (ar : List Arw) : List Value := l.map fun x => .bool (inArB ar x)
@[simp] theorem uRow_len (l : List (List Int)) (ar : List Arw) : (uRow l ar).length = l.length := by simp [uRow]
theorem uRow_at {l : List (List Int)} {ar : List Arw} {i : Nat} {s : List Int} (h : l[i]? = some s) : (uRow l ar)[i]? = some (.bool (inArB ar s)) := by simp [uRow, h]
theorem uRow_nil (l : List (List Int)) : uRow l [] = List.replicate l.length (.bool false) := by
  unfold uRow
  rw [List.eq_replicate_iff]
  refine ⟨by simp, fun b hb => ?_⟩
  obtain ⟨x, _, rfl⟩ := List.mem_map.1 hb
  rfl
theorem uRow_add {l : List (List Int)} {ar : List Arw} {i j : Nat} {s t : List Int} (hn : l.Nodup) (hs : l[i]? = some s) (ht : l[j]? = some t) : ((uRow l ar).set i (.bool true)).set j (.bool true) = uRow l (ar ++ [(s, t)]) := by
  refine List.ext_getElem? fun k => ?_
  by_cases hk : k < l.length
  · have hx : l[k]? = some l[k] := List.getElem?_eq_getElem hk
    rw [uRow_at hx, inArB_app, nodup_same hn hs hx, nodup_same hn ht hx]
    by_cases e2 : j = k
    · subst e2
      rw [List.getElem?_set_self (by simpa using hk)]; simp
    · rw [List.getElem?_set_ne e2]
      by_cases e1 : i = k
      · subst e1
        rw [List.getElem?_set_self (by simpa using hk)]; simp
      · rw [List.getElem?_set_ne e1, uRow_at hx]; simp [e1, e2]
  · rw [List.getElem?_eq_none (by simp; omega), List.getElem?_eq_none (by simp; omega)]
def GsPost (z m : Nat) (vs : List Value) (x y : List Int) : Nat → Value → World → Prop
  | 0, v, w => ∃ g, v = .slice (some ⟨g, 0, none⟩) 0 0 ∧ z ≤ g ∧ Own w 43 2 (some ⟨g, 0, none⟩) 0 0 []
  | 2, v, w => ∃ a c, v = .slice a m c ∧ (∀ g, blk a = some g → z ≤ g) ∧ Own w 43 2 a m c vs
  | 3, v, _ => ∃ g, v = .slice (some ⟨g, 0, none⟩) 0 0
  | 9, v, _ => ∃ g, v = .slice (some ⟨g, 0, none⟩) 0 0
  | 8, v, w => ∃ g c, v = .slice (some ⟨g, 0, none⟩) x.length c ∧ z ≤ g ∧ Own w 3 1 (some ⟨g, 0, none⟩) x.length c (ints x)
  | 14, v, w => ∃ g c, v = .slice (some ⟨g, 0, none⟩) y.length c ∧ z ≤ g ∧ Own w 3 1 (some ⟨g, 0, none⟩) y.length c (ints y)
  | _, _, _ => True
theorem GsPost.stays {z m : Nat} {vs : List Value} {x y : List Int} : ∀ i v w w', Grow w w' → GsPost z m vs x y i v w → GsPost z m vs x y i v w' := fun i v w w' hG h => by
  unfold GsPost at *
  split at h
  · obtain ⟨g, h1, h2, h3⟩ := h; exact ⟨g, h1, h2, h3.grow hG⟩
  · obtain ⟨a, c, h1, h2, h3⟩ := h; exact ⟨a, c, h1, h2, h3.grow hG⟩
  · exact h
  · exact h
  · obtain ⟨g, c, h1, h2, h3⟩ := h; exact ⟨g, c, h1, h2, h3.grow hG⟩
  · obtain ⟨g, c, h1, h2, h3⟩ := h; exact ⟨g, c, h1, h2, h3.grow hG⟩
  · trivial
end Go.Proofs.Yteijmppjdljedaa

namespace Go.Proofs.Yteijmppjdljedaa
open Go.RowKit

theorem Row.weakS {w : World} {S T : Nat → Prop} {sz : Nat} {a : Option Addr} {n cap : Nat} {cs : List Value} (h : Row w S sz a n cap cs) (hST : ∀ b, b < w.heap.size → S b → T b) : Row w T sz a n cap cs := h.weak hST
set_option maxHeartbeats 4000000 in
set_option maxRecDepth 100000 in
theorem specGradientOf_c {S : Nat → Prop} (a : Option Addr) (n cap : Nat) (l : List (List Int)) (w : World) (h : RdII w S a n cap l) (hn : n ≤ 1048576) (ht : total l ≤ 1048576) :
    Calls Try.prog 7 #[.slice a n cap] w fun e w' => ∃ a' m c', e = .returned (.tuple #[.slice a' m c', .bool (isCplxB l)]) ∧ RdA w' (fun _ => True) a' m c' (gradOut l) ∧ Grow w w' := by
  have Hl := Lib.hid h.len
  replace h := h.weak (T := fun b => b < w.heap.size) fun _ hb _ => hb
  cases hB : isCplxB l with
  | false =>
    have he : gradOut l = [] := by unfold gradOut; rw [hB]; rfl
    rw [he]
    have HB := Lib.hid hB; clear hB he
    go_enter Try.func7, Try.ntmps7
    go_wp2_with fail
    refine (specIsComplex_c _ _ _ l _ h hn ht).mono ?_
    rintro e w1 ⟨rfl, hG⟩
    rw [HB.out]
    go_wp2
    go_ret2
    exact ⟨_, _, _, rfl, ⟨⟨[], Row.emptyAt, fun i xs hi => by simp at hi⟩, rfl⟩, hG.alloc _ _⟩
  | true =>
    have he : gradOut l = gAt l n := by unfold gradOut; rw [hB, Hl.out]; rfl
    rw [he]
    have hok := gAt_ok l
    have hnd := cplx_nodup hB
    have hpos := fun {s : List Int} => cplx_pos (l := l) hB (s := s)
    have HB := Lib.hid hB; clear hB he
    have hmk := T_bools.make (n := n) (by omega) (by unfold maxLen; omega)
    go_enter Try.func7, Try.ntmps7
    go_wp2_with fail
    refine (specIsComplex_c _ _ _ l _ h hn ht).mono ?_
    rintro e w1 ⟨rfl, hG1⟩
    rw [HB.out]
    go_wp2
    have hs1 := hG1.size
    obtain ⟨gU, hgU⟩ : ∃ gU, gU = w1.heap.size + 1 := ⟨_, rfl⟩
    have hU0 : Own ((w1.alloc (.cells #[] 43)).alloc (.cells (madeCells #[.bool false] n) 4)) 4 1 (some ⟨w1.heap.size + 1, 0, none⟩) n n (uRow l []) := by
      have := Own.freshAt (w := w1.alloc (.cells #[] 43)) (e := 4) (sz := 1) (cs := madeCells #[.bool false] n) (n := n) (g := w1.heap.size + 1) (by simp) (by unfold maxLen; omega) (by simp [madeCells])
      rw [uRow_nil, Hl.out]
      simpa [toList_madeCells_one] using this
    go_loopw [4, 6] (fun v i wr => Grow w wr ∧ ∃ (j m c1 : Nat) (a1 : Option Addr), j ≤ n ∧ i = .int .i64 j ∧ v = .slice a1 m c1 ∧ RdA wr (fun b => b ≠ w1.heap.size + 1) a1 m c1 (gAt l j) ∧ Own wr 4 1 (some ⟨w1.heap.size + 1, 0, none⟩) n n (uRow l (gAt l j))) (fun _ i _ => n - (intOf i).toNat)
    case atStart =>
      exact ⟨(hG1.alloc _ _).alloc _ _, 0, 0, 0, _, Nat.zero_le _, rfl, rfl, ⟨⟨[], Row.emptyAt, fun i xs hi => by simp [gAt] at hi⟩, rfl⟩, hU0⟩
    case round =>
      clear hU0
      obtain ⟨hG0, j, m0, c0, a0, hj, rfl, rfl, hA0, hU0⟩ := hrel
      by_cases hlt : j < n
      · obtain ⟨b, off, s, sa, sc, rfl, hs, hSb, hbw, hc, rs⟩ := (h.grow hG0).at hlt
        have hsl := List.mem_of_getElem? hs
        have hts := (total_at hs)
        have hst : gAt l (j + 1) = gStep l (gAt l j) j := rfl
        have Hs := Lib.hid hs; clear hs
        have hok1 := hok j
        have hbd := hok1.bd
        rw [hA0.len, Hl.out] at hbd
        generalize har : gAt l j = ar at *
        clear har
        have Hst := Lib.hid (show gAt l (j + 1) = if inArB ar s = true then ar else gRow ar s (l.drop (j + 1)) by rw [hst]; unfold gStep; rw [Hs.out]); clear hst
        go_wp2
        go_loopw [4, 7] (fun v i wr => Grow w wr ∧ ∃ (k m c1 : Nat) (a1 : Option Addr) (o : List Arw), j + 1 ≤ k ∧ k ≤ n ∧ i = .int .i64 k ∧ v = .slice a1 m c1 ∧ RdA wr (fun b => b ≠ w1.heap.size + 1) a1 m c1 o ∧ Own wr 4 1 (some ⟨w1.heap.size + 1, 0, none⟩) n n (uRow l o) ∧ ((inArB o s = true ∧ o = gAt l (j + 1)) ∨ (inArB o s = false ∧ o = ar ∧ gRow ar s (l.drop (j + 1)) = gRow ar s (l.drop k)))) (fun _ i _ => n - (intOf i).toNat)
        case atStart =>
          refine ⟨hG0, j + 1, m0, c0, a0, ar, by omega, by omega, by go_num, rfl, hA0, hU0, ?_⟩
          cases hin : inArB ar s with
          | true => exact .inl ⟨rfl, by rw [Hst.out, if_pos hin]⟩
          | false => exact .inr ⟨rfl, rfl, rfl⟩
        case round =>
          clear hA0 hU0 hG0 hc rs
          obtain ⟨hG, k, m, c1, a1, o, hjk, hk, rfl, rfl, hA, hU, hor⟩ := hrel
          have hUi := hU.cell (uRow_at Hs.out)
          simp only at hUi
          by_cases hkn : k < n
          · rcases hor with ⟨hin, ho⟩ | ⟨hin, rfl, hrow⟩
            · have Hin := Lib.hid hin
              rw [hin] at hUi
              have Ho := Lib.hid ho; clear ho hin
              go_wp2
              go_roundw
              case rel => exact ⟨hG, j + 1, m, c1, a1, by omega, by go_num, rfl, by rw [← Ho.out]; exact hA, by rw [← Ho.out]; exact hU⟩
              case measure => simp [intOf]; omega
            · rw [hin] at hUi
              have Hin := Lib.hid hin
              have Hrow := Lib.hid hrow; clear hrow
              obtain ⟨b1, off1, s', sa1, sc1, e1, hs1', _, hbs, hcs, rs⟩ := (h.grow hG).at hlt
              obtain ⟨rfl, rfl⟩ : b1 = b ∧ off1 = off := by simpa using e1.symm
              obtain rfl : s' = s := Option.some.inj (hs1'.symm.trans Hs.out)
              obtain ⟨b2, off2, t, ta, tc, e2, hy, _, hbt, hct, rt⟩ := (h.grow hG).at hkn
              obtain ⟨rfl, rfl⟩ : b2 = b1 ∧ off2 = off1 := by simpa using e2.symm
              clear e1 e2 hs1'
              have hUk := hU.cell (uRow_at hy)
              simp only at hUk
              have htt := total_at hy
              have htl := List.mem_of_getElem? hy
              have Hy := Lib.hid hy; clear hy
              cases hit : inArB o t with
              | true =>
                have HF := Lib.hid (show gFits o s' t = false by unfold gFits; rw [hit]; simp)
                rw [hit] at hUk
                have Hit := Lib.hid hit; clear hit hin
                go_wp2
                refine wp_region_segs (S := Grow wr) [([0, 1, 2, 3, 4, 5, 6, 7, 8, 9, 10, 11, 12], some 13), ([14, 15], none)] P_mixed (by kernel_rfl) (fun _ _ _ _ _ h => h) (Grow.refl _).drew ?_
                show wpQuiet _ _ _ _ [_, _, _, _, _, _, _, _, _, _, _, _, _] _
                repeat (first | go_big_quiet_skip | (go_big_quiet_want; first | (apply quiet_load CT_bool; rfl; rfl; exact (fun w' hG => hG.cell hUk); go_big_quiet_on; simp only [Act.put, List.setIfInBounds_toArray, List.set_cons_succ, List.set_cons_zero]) | (apply quiet_load CT_ints; rfl; rfl; exact (fun w' hG => hG.cell hcs); go_big_quiet_on; simp only [Act.put, List.setIfInBounds_toArray, List.set_cons_succ, List.set_cons_zero]) | (apply quiet_load CT_ints; rfl; rfl; exact (fun w' hG => hG.cell hct); go_big_quiet_on; simp only [Act.put, List.setIfInBounds_toArray, List.set_cons_succ, List.set_cons_zero]) | (go_big_quiet_op; first | go_big_quiet_on | (refine ⟨_, (fun _ _ => rfl), ?_⟩; go_big_quiet_on))))
                refine wpQuiet_nil ?_
                have hGx : Grow wr wr.drew := (Grow.refl wr).drew
                refine seg_skip rfl (hGx) ?_
                show wpQuiet _ _ _ _ [_, _] _
                try (conv => arg 6; simp only [Act.put, List.setIfInBounds_toArray, List.set_cons_succ, List.set_cons_zero])
                repeat (first | go_big_quiet_skip | (go_big_quiet_want; first | (apply quiet_load CT_bool; rfl; rfl; exact (fun w' hG => hG.cell hUk); go_big_quiet_on; simp only [Act.put, List.setIfInBounds_toArray, List.set_cons_succ, List.set_cons_zero]) | (apply quiet_load CT_ints; rfl; rfl; exact (fun w' hG => hG.cell hcs); go_big_quiet_on; simp only [Act.put, List.setIfInBounds_toArray, List.set_cons_succ, List.set_cons_zero]) | (apply quiet_load CT_ints; rfl; rfl; exact (fun w' hG => hG.cell hct); go_big_quiet_on; simp only [Act.put, List.setIfInBounds_toArray, List.set_cons_succ, List.set_cons_zero]) | (go_big_quiet_op; first | go_big_quiet_on | (refine ⟨_, (fun _ _ => rfl), ?_⟩; go_big_quiet_on))))
                refine wpQuiet_nil ?_
                refine wpSegs_nil ?_
                go_wp2
                go_roundw
                case rel =>
                  exact ⟨hG.trans hGx, k + 1, m, c1, a1, o, by omega, by omega, by go_num, rfl, hA.grow hGx, hU.grow hGx, .inr ⟨Hin.out, rfl, by rw [Hrow.out, gRow_drop Hy.out, if_neg (by rw [HF.out]; simp)]⟩⟩
                case measure => simp [intOf]; omega
              | false =>
                rw [hit] at hUk
                cases hf : isFaceB s' t with
                | false =>
                  have HF := Lib.hid (show gFits o s' t = false by unfold gFits; rw [hf]; rfl)
                  have Hf := Lib.hid hf; have Hit := Lib.hid hit; clear hit hin hf
                  go_wp2
                  refine wp_region_segs (S := Grow wr) [([0, 1, 2, 3, 4, 5, 6, 7, 8, 9, 10, 11, 12], some 13), ([14, 15], none)] P_mixed (by kernel_rfl) (fun _ _ _ _ _ h => h) (Grow.refl _).drew ?_
                  show wpQuiet _ _ _ _ [_, _, _, _, _, _, _, _, _, _, _, _, _] _
                  repeat (first | go_big_quiet_skip | (go_big_quiet_want; first | (apply quiet_load CT_bool; rfl; rfl; exact (fun w' hG => hG.cell hUk); go_big_quiet_on; simp only [Act.put, List.setIfInBounds_toArray, List.set_cons_succ, List.set_cons_zero]) | (apply quiet_load CT_ints; rfl; rfl; exact (fun w' hG => hG.cell hcs); go_big_quiet_on; simp only [Act.put, List.setIfInBounds_toArray, List.set_cons_succ, List.set_cons_zero]) | (apply quiet_load CT_ints; rfl; rfl; exact (fun w' hG => hG.cell hct); go_big_quiet_on; simp only [Act.put, List.setIfInBounds_toArray, List.set_cons_succ, List.set_cons_zero]) | (go_big_quiet_op; first | go_big_quiet_on | (refine ⟨_, (fun _ _ => rfl), ?_⟩; go_big_quiet_on))))
                  refine wpQuiet_nil ?_
                  refine seg_go rfl (fun K hK => ?_)
                  go_wp2_with fail
                  refine (l35Face_c _ _ _ _ _ _ s' t _ (rs.grow (Grow.refl _).drew) (rt.grow (Grow.refl _).drew) (by omega) (by omega)).mono ?_
                  rintro e w3 ⟨rfl, hGq⟩
                  have hGx := (Grow.refl wr).drew.trans hGq
                  clear hGq
                  rw [Hf.out]
                  go_wp2_with fail
                  refine hK _ _ (hGx) ?_
                  clear hK K
                  show wpQuiet _ _ _ _ [_, _] _
                  try (conv => arg 6; simp only [Act.put, List.setIfInBounds_toArray, List.set_cons_succ, List.set_cons_zero])
                  repeat (first | go_big_quiet_skip | (go_big_quiet_want; first | (apply quiet_load CT_bool; rfl; rfl; exact (fun w' hG => hG.cell hUk); go_big_quiet_on; simp only [Act.put, List.setIfInBounds_toArray, List.set_cons_succ, List.set_cons_zero]) | (apply quiet_load CT_ints; rfl; rfl; exact (fun w' hG => hG.cell hcs); go_big_quiet_on; simp only [Act.put, List.setIfInBounds_toArray, List.set_cons_succ, List.set_cons_zero]) | (apply quiet_load CT_ints; rfl; rfl; exact (fun w' hG => hG.cell hct); go_big_quiet_on; simp only [Act.put, List.setIfInBounds_toArray, List.set_cons_succ, List.set_cons_zero]) | (go_big_quiet_op; first | go_big_quiet_on | (refine ⟨_, (fun _ _ => rfl), ?_⟩; go_big_quiet_on))))
                  refine wpQuiet_nil ?_
                  refine wpSegs_nil ?_
                  go_wp2
                  go_roundw
                  case rel =>
                    exact ⟨hG.trans hGx, k + 1, m, c1, a1, o, by omega, by omega, by go_num, rfl, hA.grow hGx, hU.grow hGx, .inr ⟨Hin.out, rfl, by rw [Hrow.out, gRow_drop Hy.out, if_neg (by rw [HF.out]; simp)]⟩⟩
                  case measure => simp [intOf]; omega
                | true =>
                  have hok2 := hok1.add hin hit hf hsl htl
                  have hbd2 := hok2.bd
                  have hAl := hA.len
                  have hlen := Hl.out
                  simp only [List.length_append, List.length_cons, List.length_nil] at hbd2
                  have HF0 := Lib.hid (show gFits o s' t = acycB (o ++ [(s', t)]) by unfold gFits; rw [hf, hit]; rfl)
                  have hsp := hpos hsl
                  have htp := hpos htl
                  have Hf := Lib.hid hf; have Hit := Lib.hid hit; clear hit hin hf hok2
                  go_wp2
                  refine wp_region_segs (S := Grow wr) [([0, 1, 2, 3, 4, 5, 6, 7, 8, 9, 10, 11, 12], some 13), ([14, 15], none)] P_mixed (by kernel_rfl) (fun _ _ _ _ _ h => h) (Grow.refl _).drew ?_
                  show wpQuiet _ _ _ _ [_, _, _, _, _, _, _, _, _, _, _, _, _] _
                  repeat (first | go_big_quiet_skip | (go_big_quiet_want; first | (apply quiet_load CT_bool; rfl; rfl; exact (fun w' hG => hG.cell hUk); go_big_quiet_on; simp only [Act.put, List.setIfInBounds_toArray, List.set_cons_succ, List.set_cons_zero]) | (apply quiet_load CT_ints; rfl; rfl; exact (fun w' hG => hG.cell hcs); go_big_quiet_on; simp only [Act.put, List.setIfInBounds_toArray, List.set_cons_succ, List.set_cons_zero]) | (apply quiet_load CT_ints; rfl; rfl; exact (fun w' hG => hG.cell hct); go_big_quiet_on; simp only [Act.put, List.setIfInBounds_toArray, List.set_cons_succ, List.set_cons_zero]) | (go_big_quiet_op; first | go_big_quiet_on | (refine ⟨_, (fun _ _ => rfl), ?_⟩; go_big_quiet_on))))
                  refine wpQuiet_nil ?_
                  refine seg_go rfl (fun K hK => ?_)
                  go_wp2_with fail
                  refine (l35Face_c _ _ _ _ _ _ s' t _ (rs.grow (Grow.refl _).drew) (rt.grow (Grow.refl _).drew) (by omega) (by omega)).mono ?_
                  rintro e w3 ⟨rfl, hGq⟩
                  have hGx := (Grow.refl wr).drew.trans hGq
                  clear hGq
                  rw [Hf.out]
                  go_wp2_with fail
                  refine hK _ _ (hGx) ?_
                  clear hK K
                  show wpQuiet _ _ _ _ [_, _] _
                  try (conv => arg 6; simp only [Act.put, List.setIfInBounds_toArray, List.set_cons_succ, List.set_cons_zero])
                  repeat (first | go_big_quiet_skip | (go_big_quiet_want; first | (apply quiet_load CT_bool; rfl; rfl; exact (fun w' hG => hG.cell hUk); go_big_quiet_on; simp only [Act.put, List.setIfInBounds_toArray, List.set_cons_succ, List.set_cons_zero]) | (apply quiet_load CT_ints; rfl; rfl; exact (fun w' hG => hG.cell hcs); go_big_quiet_on; simp only [Act.put, List.setIfInBounds_toArray, List.set_cons_succ, List.set_cons_zero]) | (apply quiet_load CT_ints; rfl; rfl; exact (fun w' hG => hG.cell hct); go_big_quiet_on; simp only [Act.put, List.setIfInBounds_toArray, List.set_cons_succ, List.set_cons_zero]) | (go_big_quiet_op; first | go_big_quiet_on | (refine ⟨_, (fun _ _ => rfl), ?_⟩; go_big_quiet_on))))
                  refine wpQuiet_nil ?_
                  refine wpSegs_nil ?_
                  have hA3 := hA.grow hGx
                  have hU3 := hU.grow hGx
                  have rs3 := rs.grow hGx
                  have rt3 := rt.grow hGx
                  have hcs3 := hGx.cell hcs
                  have hct3 := hGx.cell hct
                  obtain ⟨vs, hV1, hV2, hV3⟩ := hA3.parts
                  have hs3 := hGx.size
                  have hsw := hG.size
                  go_wp2
                  refine wp_region_par (S := Grow w3) [1, 4, 5, 6, 7, 10, 11, 12, 13] [0, 2, 3, 8, 9, 14] [] [([], some 15), ([], some 16), ([], some 17), ([18], none)] P_mixed (by kernel_rfl) (fun _ _ _ _ _ h => h) (Grow.refl _).drew ?_
                  show wpQuiet _ _ _ _ [_, _, _, _, _, _, _, _, _] _
                  repeat (first | go_big_quiet_skip | (go_big_quiet_want; first | (apply quiet_load CT_ints; rfl; rfl; exact (fun w' hG => hG.cell hcs3); go_big_quiet_on; simp only [Act.put, List.setIfInBounds_toArray, List.set_cons_succ, List.set_cons_zero]) | (apply quiet_load CT_ints; rfl; rfl; exact (fun w' hG => hG.cell hct3); go_big_quiet_on; simp only [Act.put, List.setIfInBounds_toArray, List.set_cons_succ, List.set_cons_zero]) | (go_big_quiet_op; first | go_big_quiet_on | (refine ⟨_, (fun _ _ => rfl), ?_⟩; go_big_quiet_on))))
                  refine wpQuiet_nil ?_
                  refine ⟨by kernel_rfl, GsPost w3.heap.size m vs s' t, fun _ _ => none, GsPost.stays, (fun _ _ _ _ _ h => by cases h), (fun _ h _ => by cases h), ?_, (fun _ h => by cases h), ?_⟩
                  · intro i hi o' ho' a' w4 hGw hSw hdep hfr K hK
                    have hgw : Grow w3 w4 := hSw
                    have hs4 := hgw.size
                    simp only [List.mem_cons, List.not_mem_nil, or_false] at hi
                    rcases hi with rfl | rfl | rfl | rfl | rfl | rfl
                    · obtain rfl := Option.some.inj (show some _ = some _ from ho')
                      refine par_built0 rfl T_arrows ?_
                      exact hK _ _ ((Grow.refl _).alloc _ _) (hSw.alloc _ _) ⟨_, rfl, hs4, Own.freshAt rfl (by unfold maxLen; omega) rfl⟩ (fun _ h => by cases h)
                    · obtain rfl := Option.some.inj (show some _ = some _ from ho')
                      obtain ⟨g, e, hz, hE⟩ : ∃ g, a'.tmps.getD 54 undef = .slice (some ⟨g, 0, none⟩) 0 0 ∧ w3.heap.size ≤ g ∧ Own w4 43 2 (some ⟨g, 0, none⟩) 0 0 [] := hdep 0 (by decide) ⟨⟨0, .data⟩, by simp, rfl, rfl⟩ 54 rfl
                      have e55 : a'.eval (.tmp 55) = .slice a1 m c1 := hfr 55 (by decide)
                      by_cases hm0 : m = 0
                      · have hvs : vs = [] := List.eq_nil_of_length_eq_zero (by rw [hV3, hAl, hm0])
                        rw [hm0] at e55
                        refine par_app_nil (s := .tmp 54) (x := .tmp 55) rfl T_arrows e e55 ?_
                        exact hK _ _ (Grow.refl _) hSw ⟨_, 0, by rw [hm0], fun q hq => by simp at hq; omega, by rw [hm0, hvs]; exact hE⟩ (fun _ h => by cases h)
                      · refine par_app (s := .tmp 54) (x := .tmp 55) rfl T_arrows e (Row.emptyAt (S := fun _ => True)) e55 (hV1.grow hgw) (by omega) (by omega) (by unfold maxLen; omega) ?_
                        intro c' w5 h1 h2
                        rw [Nat.zero_add] at h1 ⊢
                        exact hK _ _ h2 (hSw.trans h2) ⟨_, c', rfl, fun q hq => by simp at hq; omega, h1⟩ (fun _ h => by cases h)
                    · obtain rfl := Option.some.inj (show some _ = some _ from ho')
                      refine par_built0 rfl T_ints ?_
                      exact hK _ _ ((Grow.refl _).alloc _ _) (hSw.alloc _ _) ⟨_, rfl⟩ (fun _ h => by cases h)
                    · obtain rfl := Option.some.inj (show some _ = some _ from ho')
                      obtain ⟨g, e⟩ : ∃ g, a'.tmps.getD 57 undef = .slice (some ⟨g, 0, none⟩) 0 0 := hdep 3 (by decide) ⟨⟨3, .data⟩, by simp, rfl, rfl⟩ 57 rfl
                      refine par_app (s := .tmp 57) (x := .tmp 61) rfl T_ints e (Row.emptyAt (S := fun _ => True)) (hfr 61 (by decide)) (rs3.grow hgw).row (by omega) (by omega) (by unfold maxLen; omega) ?_
                      intro c' w5 h1 h2
                      rw [Nat.zero_add] at h1 ⊢
                      exact hK _ _ h2 (hSw.trans h2) ⟨_, c', rfl, by omega, h1⟩ (fun _ h => by cases h)
                    · obtain rfl := Option.some.inj (show some _ = some _ from ho')
                      refine par_built0 rfl T_ints ?_
                      exact hK _ _ ((Grow.refl _).alloc _ _) (hSw.alloc _ _) ⟨_, rfl⟩ (fun _ h => by cases h)
                    · obtain rfl := Option.some.inj (show some _ = some _ from ho')
                      obtain ⟨g, e⟩ : ∃ g, a'.tmps.getD 63 undef = .slice (some ⟨g, 0, none⟩) 0 0 := hdep 9 (by decide) ⟨⟨9, .data⟩, by simp, rfl, rfl⟩ 63 rfl
                      refine par_app (s := .tmp 63) (x := .tmp 67) rfl T_ints e (Row.emptyAt (S := fun _ => True)) (hfr 67 (by decide)) (rt3.grow hgw).row (by omega) (by omega) (by unfold maxLen; omega) ?_
                      intro c' w5 h1 h2
                      rw [Nat.zero_add] at h1 ⊢
                      exact hK _ _ h2 (hSw.trans h2) ⟨_, c', rfl, by omega, h1⟩ (fun _ h => by cases h)
                  intro vs' w4 hGw hSw hP _
                  apply fill_to
                  · show _ = ([some 54, some 56, some 57, some 62, some 63, some 68] : List (Option Tmp))
                    kernel_rfl
                  simp only [fillD, List.cons_append, List.nil_append, List.map_cons, List.map_nil, List.zip_cons_cons, List.zip_nil_right, Act.put, List.setIfInBounds_toArray, List.set_cons_succ, List.set_cons_zero]
                  refine ⟨?_⟩
                  have hgw : Grow w3 w4 := hSw
                  have hs4 := hgw.size
                  obtain ⟨a2, c2, e2, hz2, O2⟩ : ∃ a c, vs' 2 = .slice a m c ∧ (∀ g, blk a = some g → w3.heap.size ≤ g) ∧ Own w4 43 2 a m c vs := hP 2 (by decide)
                  obtain ⟨g8, c8, e8, hz8, o8⟩ : ∃ g c, vs' 8 = .slice (some ⟨g, 0, none⟩) s'.length c ∧ w3.heap.size ≤ g ∧ Own w4 3 1 (some ⟨g, 0, none⟩) s'.length c (ints s') := hP 8 (by decide)
                  obtain ⟨g14, c14, e14, hz14, o14⟩ : ∃ g c, vs' 14 = .slice (some ⟨g, 0, none⟩) t.length c ∧ w3.heap.size ≤ g ∧ Own w4 3 1 (some ⟨g, 0, none⟩) t.length c (ints t) := hP 14 (by decide)
                  rw [e2, e8, e14]
                  clear hP e2 e8 e14
                  show wpQuiet _ _ _ _ [] _
                  apply wpQuiet_nil
                  apply seg_go rfl
                  intro K hK
                  go_wp2_with fail
                  refine hK _ _ hSw ?_
                  clear hK K
                  show wpQuiet _ _ _ _ [] _
                  try (conv => arg 6; simp only [Act.put, List.setIfInBounds_toArray, List.set_cons_succ, List.set_cons_zero])
                  refine wpQuiet_nil ?_
                  refine seg_go rfl (fun K hK => ?_)
                  go_wp2_with fail
                  refine hK _ _ (hSw.alloc _ _) ?_
                  clear hK K
                  show wpQuiet _ _ _ _ [] _
                  try (conv => arg 6; simp only [Act.put, List.setIfInBounds_toArray, List.set_cons_succ, List.set_cons_zero])
                  refine wpQuiet_nil ?_
                  refine seg_go rfl (fun K hK => ?_)
                  have hGz := (Grow.refl w4).alloc #[.slice (some ⟨g8, 0, none⟩) s'.length c8, .slice (some ⟨g14, 0, none⟩) t.length c14] 43
                  refine op_app rfl T_arrows rfl (O2.grow hGz) rfl (Row.built (S := fun _ => True) 1 (by unfold maxLen; omega) rfl trivial) (by simp [Value.oneCell']) (by omega) (by unfold maxLen; omega) ?_
                  intro a3 c3 w5 hA5
                  have hG5 : Grow w3 w5 := hA5.grow (hgw.trans hGz) hz2
                  have hUlt := hU3.lt (g := w1.heap.size + 1) rfl
                  have hl3 := hA5.lo (B := w3.heap.size) (by have := hGz.size; omega) hz2
                  have n8 := Own.ne_own (O2.grow hGz) (o8.grow hGz) (by decide)
                  have n14 := Own.ne_own (O2.grow hGz) (o14.grow hGz) (by decide)
                  have q8 := ((o8.grow hGz).keep hA5.keep (fun g hg _ e => n8 g e hg)).rdI (S := fun b => b ≠ w1.heap.size + 1) (fun g hg => by simp at hg; omega) rs.rng
                  have q14 := ((o14.grow hGz).keep hA5.keep (fun g hg _ e => n14 g e hg)).rdI (S := fun b => b ≠ w1.heap.size + 1) (fun g hg => by simp at hg; omega) rt.rng
                  have hA6 : RdA w5 (fun b => b ≠ w1.heap.size + 1) a3 (m + 1) c3 (o ++ [(s', t)]) := ⟨⟨_, hA5.own.row (S := fun b => b ≠ w1.heap.size + 1) (fun g hg => by have := hl3 g hg; omega), (hV2.grow hG5).twoApp hV3 q8 q14⟩, by simp [hAl]⟩
                  refine hK _ _ hG5 ?_
                  clear hK K hA5 O2 o8 o14 n8 n14 q8 q14 hGz hSw hgw hGw hV1 hV2 hz2 hl3
                  show wpQuiet _ _ _ _ [_] _
                  try (conv => arg 6; simp only [Act.put, List.setIfInBounds_toArray, List.set_cons_succ, List.set_cons_zero])
                  repeat (first | go_big_quiet_skip | (go_big_quiet_want; first | (apply quiet_load CT_ints; rfl; rfl; exact (fun w' hG => hG.cell hcs3); go_big_quiet_on; simp only [Act.put, List.setIfInBounds_toArray, List.set_cons_succ, List.set_cons_zero]) | (apply quiet_load CT_ints; rfl; rfl; exact (fun w' hG => hG.cell hct3); go_big_quiet_on; simp only [Act.put, List.setIfInBounds_toArray, List.set_cons_succ, List.set_cons_zero]) | (go_big_quiet_op; first | go_big_quiet_on | (refine ⟨_, (fun _ _ => rfl), ?_⟩; go_big_quiet_on))))
                  refine wpQuiet_nil ?_
                  refine wpSegs_nil ?_
                  go_wp2_with fail
                  refine (l35Acyclic_c _ _ _ (o ++ [(s', t)]) _ hA6 (by omega) (by omega)).mono ?_
                  rintro e w6 ⟨rfl, hG6⟩
                  have hGy := hG5.trans hG6
                  cases hac : acycB (o ++ [(s', t)]) with
                  | false =>
                    have HF := Lib.hid (show gFits o s' t = false by rw [HF0.out, hac])
                    have Hac := Lib.hid hac; clear hac
                    replace hGx := hGx.trans hGy
                    go_wp2
                    go_roundw
                    case rel =>
                      exact ⟨hG.trans hGx, k + 1, m, c1, a1, o, by omega, by omega, by go_num, rfl, hA.grow hGx, hU.grow hGx, .inr ⟨Hin.out, rfl, by rw [Hrow.out, gRow_drop Hy.out, if_neg (by rw [HF.out]; simp)]⟩⟩
                    case measure => simp [intOf]; omega
                  | true =>
                    have HF := Lib.hid (show gFits o s' t = true by rw [HF0.out, hac])
                    have Hac := Lib.hid hac; clear hac
                    have hU6 := hU3.grow hGy
                    have hadd := uRow_add (ar := o) hnd Hs.out Hy.out
                    have u1 := hU6.cell (uRow_at Hs.out)
                    have u2 := (hU6.set j (.bool true)).cell (j := k) (by rw [List.getElem?_set_ne (by omega)]; exact uRow_at Hy.out)
                    have v1 := hU6.free j
                    have v2 := hU6.free k
                    have hU7 := (hU6.set j (.bool true)).set k (.bool true)
                    rw [hadd] at hU7
                    simp only at u1 u2 v1 v2 hU7
                    have hK7 : Keep (fun q => q ≠ w1.heap.size + 1) w6 ((w6.setCell ⟨w1.heap.size + 1, j, none⟩ (.bool true)).setCell ⟨w1.heap.size + 1, k, none⟩ (.bool true)) := ((Keep.refl _ w6).setCell (fun _ e => e rfl) _).setCell (fun _ e => e rfl) _
                    have hA7 := (hA6.grow hG6).keep hK7 (fun _ _ hb => hb)
                    have hG7 := ((hG.trans hGx).trans hGy).keep hK7 (fun i hi => by omega)
                    clear hadd hU6 hK7
                    go_wp2
                    go_roundw
                    case rel =>
                      exact ⟨hG7, k + 1, m + 1, c3, a3, o ++ [(s', t)], by omega, by omega, by go_num, rfl, hA7, hU7, .inl ⟨by rw [inArB_app]; simp [sameI], by rw [Hst.out, if_neg (by rw [Hin.out]; simp), Hrow.out, gRow_drop Hy.out, if_pos HF.out]⟩⟩
                    case measure => simp [intOf]; omega
          · have hkn' : k = n := by omega
            subst hkn'
            have Ho := Lib.hid (show o = gAt l (j + 1) by
              rcases hor with ⟨hin, ho⟩ | ⟨hin, ho, hrow⟩
              · exact ho
              · subst ho
                rw [Hst.out, if_neg (by rw [hin]; simp), hrow, List.drop_of_length_le (by rw [Hl.out]; omega)]; rfl)
            clear hor
            go_wp2
            go_roundw
            case rel => exact ⟨hG, j + 1, m, c1, a1, by omega, by go_num, rfl, by rw [← Ho.out]; exact hA, by rw [← Ho.out]; exact hU⟩
            case measure => simp [intOf]; omega
      · have hjn : j = n := by omega
        subst hjn
        go_wp2
        go_ret2
        exact ⟨_, _, _, rfl, hA0.weak fun _ _ _ => trivial, hG0⟩
end Go.Proofs.Yteijmppjdljedaa
