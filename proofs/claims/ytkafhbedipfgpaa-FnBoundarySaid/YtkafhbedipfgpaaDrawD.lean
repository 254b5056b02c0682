/-
  The draws of complexes, whole.
-/
import Derived.Test.YtkafhbedipfgpaaDrawC
namespace Go.Proofs.Ytkafhbedipfgpaa
open Go.RowKit

theorem RdCells.take {w : World} {S : Nat → Prop} {vs : List Value} {l : List (List Int)} (h : RdCells w S vs l) (k : Nat) : RdCells w S (vs.take k) (l.take k) := fun i xs hi => by
  rw [List.getElem?_take] at hi ⊢
  split at hi
  · rename_i hlt; rw [if_pos hlt]; exact h i xs hi
  · cases hi
theorem RdCells.drop {w : World} {S : Nat → Prop} {vs : List Value} {l : List (List Int)} (h : RdCells w S vs l) (k : Nat) : RdCells w S (vs.drop k) (l.drop k) := fun i xs hi => by
  rw [List.getElem?_drop] at hi ⊢
  exact h _ xs hi
theorem cplxOut_small (l : List (List Int)) : (cplxOut l).length ≤ 96 ∧ ∀ s ∈ cplxOut l, s.length ≤ 4 := by
  unfold cplxOut
  split
  · rename_i h
    unfold cplxOk at h
    simp only [Bool.and_eq_true] at h
    exact ⟨cplx_len h.2.2, fun s hs => (simp_len ((isCplxB_iff.1 h.2.2).1.1 s hs)).2⟩
  · exact ⟨by simp, by simp⟩
set_option maxHeartbeats 4000000 in
set_option maxRecDepth 100000 in
theorem l32Complex_c (g : Nat) (w : World) (h : Cur w g) :
    Calls Try.prog 91 #[.pointer (some ⟨g, 0, none⟩)] w fun e w' => ∃ a n c l, e = .returned (.slice a n c) ∧ RdII w' (fun q => w.heap.size ≤ q) a n c l ∧ n ≤ 96 ∧ (∀ s ∈ l, s.length ≤ 4) ∧ Cur w' g ∧ Keep (fun q => q ≠ g) w w' := by
  have hg := h.lt
  go_enter Try.func91, Try.ntmps91
  go_wp2_with fail
  refine (l32Facets_c g _ h).mono ?_
  rintro e w1 ⟨a0, n0, c0, l0, rfl, hR0, hn0, h40, hC1, hK1⟩
  have hs1 := hK1.size
  have ht0 := total_small h40
  have hl0 := hR0.len
  go_wp2_with fail
  refine (specComplexOf_c _ _ _ l0 _ hR0 (by omega) (by omega)).mono ?_
  rintro e w2 ⟨a, m, c, rfl, hR, hG2⟩
  obtain ⟨hm96, h4⟩ := cplxOut_small l0
  have hml := hR.len
  rw [hml] at hm96
  have hR2 := hR.weak (T := fun q => w.heap.size ≤ q) (fun q _ hb => by omega)
  have hC2 := hC1.grow hG2
  have hK2 := hK1.trans hG2.any
  clear hR0 hR hC1 hK1
  generalize cplxOut l0 = l at *
  generalize cplxOk l0 = ok at *
  clear ht0 hl0
  have Hml := Lib.hid hml; clear hml
  by_cases h0 : 0 < m
  · go_wp2_with fail
    refine (l1Once_c g 16 _ hC2 (by omega)).mono ?_
    rintro e w3 ⟨b, rfl, hC3, hK3⟩
    have hK03 := hK2.trans hK3
    have hR3 := hR2.keep hK3 (fun q _ hb e => by omega)
    cases b with
    | false =>
      go_wp2
      go_ret
      exact ⟨_, _, _, l, rfl, hR3, hm96, h4, hC3, hK03⟩
    | true =>
      go_wp2_with fail
      refine (l1Below_c g m _ hC3 (by omega)).mono ?_
      rintro e w5 ⟨k, hk, rfl, hC5, hK5⟩
      have hK05 := hK03.trans hK5
      obtain ⟨⟨vs, hV1, hV2⟩, _⟩ := hR3.keep hK5 (fun q _ hb e => by omega)
      replace hV2 : RdCells w5 (fun q => w.heap.size ≤ q) vs l := hV2
      have hvl : vs.length = m := by have := hV1.len; omega
      have hs5 := hK05.size
      have hkm : k < m := by omega
      have hle := hV1.le
      have hmax := hV1.max
      unfold maxLen at hmax
      have h1c := hV2.one (by have := Hml.out; omega)
      have r1 := T_intss.atH (a := a) (n := m) (cap := c) (k := k) (i := k) rfl (by omega)
      have r2 := T_intss.atL (a := a) (n := m) (cap := c) (l := k + 1) (i := k + 1) rfl (by omega)
      have d1 := hV1.pre (k := k) (by omega)
      rw [Nat.mul_one] at d1
      have d2 := hV1.suf (k := k + 1) (by omega)
      clear hR2 hC2 hK2 hC3 hK3 hR3 hK5 hK03 hG2 hk
      go_wp2
      refine wp_region_mix (S := Grow w5) [1, 2, 3, 5, 6, 7, 8] [0, 4, 9, 10] P_mixed (by kernel_rfl) (fun _ _ _ _ _ h => h) (Grow.refl _).drew ?_
      show wpQuiet _ _ _ (fun a' => wpListS _ _ _ _ [_, _, _, _] a' _) [_, _, _, _, _, _, _] _
      repeat (first | go_big_quiet_skip | (go_big_quiet_want; first | (apply quiet_sliceH (x := .tmp 24) (h := .tmp 25); rfl; exact r1; go_big_quiet_on; simp only [Act.put, List.setIfInBounds_toArray, List.set_cons_succ, List.set_cons_zero]) | (apply quiet_sliceL (x := .tmp 28) (l := .tmp 30); rfl; exact r2; go_big_quiet_on; simp only [Act.put, List.setIfInBounds_toArray, List.set_cons_succ, List.set_cons_zero]) | (go_big_quiet_op; first | go_big_quiet_on | (refine ⟨_, (fun _ _ => rfl), ?_⟩; go_big_quiet_on))))
      refine wpQuiet_nil ?_
      show wpListS _ _ _ _ _ _ _
      refine wpListS_step rfl (fun K hK => ?_)
      go_wp2_with fail
      refine hK _ _ (((Grow.refl w5).alloc _ _).drew) ?_
      clear hK K
      have hE : Own (w5.alloc (.cells #[] 28)).drew 28 1 (some ⟨w5.heap.size, 0, none⟩) 0 0 [] := (Own.fresh (w := w5) (by unfold maxLen; omega) rfl).grow (Grow.refl _).drew
      refine wpListS_step rfl (fun K hK => ?_)
      refine wp_app (.tmp 23) (.tmp 26) _ rfl T_intss rfl hE rfl (d1.grow ((Grow.refl w5).alloc _ _).drew) (fun u hu => h1c u (List.mem_of_mem_take hu)) (by omega) (by unfold maxLen; omega) ?_
      intro a2 c2 w6 hA2
      have hG6 : Grow w5 w6 := hA2.grow ((Grow.refl w5).alloc _ _).drew (fun g hg => by simp at hg; omega)
      have hB2 : ∀ q, blk a2 = some q → w5.heap.size ≤ q := hA2.lo (by simp) (fun g hg => by simp at hg; omega)
      refine hK _ _ (hG6) ?_
      clear hK K
      simp only [Act.put, List.setIfInBounds_toArray, List.set_cons_succ, List.set_cons_zero]
      refine wpListS_step rfl (fun K hK => ?_)
      refine wp_app (.tmp 27) (.tmp 31) _ rfl T_intss rfl hA2.own rfl (d2.grow hG6) (fun u hu => h1c u (List.mem_of_mem_drop hu)) (by omega) (by unfold maxLen; omega) ?_
      intro a3 c3 w7 hA3
      have hG7 : Grow w5 w7 := hA3.grow hG6 hB2
      have hB3 : ∀ q, blk a3 = some q → w5.heap.size ≤ q := hA3.lo hG6.size hB2
      refine hK _ _ (hG7) ?_
      clear hK K
      simp only [Act.put, List.setIfInBounds_toArray, List.set_cons_succ, List.set_cons_zero]
      refine wpListS_step rfl (fun K hK => ?_)
      go_wp2_with fail
      refine hK _ _ (hG7) ?_
      clear hK K
      refine wpListS_nil ?_
      go_wp2
      go_ret
      have hO := hA3.own
      have hcells : RdCells w7 (fun q => w.heap.size ≤ q) (vs.take k ++ vs.drop (k + 1)) (l.take k ++ l.drop (k + 1)) := RdCells.append ((hV2.grow hG7).take k) ((hV2.grow hG7).drop (k + 1)) (by have := Hml.out; simp; omega)
      refine ⟨a3, 0 + k + (m - (k + 1)), c3, l.take k ++ l.drop (k + 1), rfl, ⟨⟨vs.take k ++ vs.drop (k + 1), ?_, hcells⟩, by have := Hml.out; simp; omega⟩, by omega, ?_, hC5.grow hG7, hK05.trans hG7.any⟩
      · have := hO.row (S := fun q => w.heap.size ≤ q) (fun q hq => by have := hB3 q hq; omega)
        simpa using this
      · intro s hs
        rcases List.mem_append.1 hs with hs | hs
        · exact h4 s (List.mem_of_mem_take hs)
        · exact h4 s (List.mem_of_mem_drop hs)
  · go_wp2
    go_ret
    exact ⟨_, _, _, l, rfl, hR2, hm96, h4, hC2, hK2⟩
set_option maxHeartbeats 1000000 in
set_option maxRecDepth 100000 in
theorem l33Draw_c {S : Nat → Prop} (a : Option Addr) (n cap : Nat) (bs : List Int) (w : World) (h : RdB w S a n cap bs) (hn : n ≤ 1048576) :
    Calls Try.prog 74 #[.slice a n cap] w fun e w' => ∃ a' m c' l, ∃ k : Nat, e = .returned (.tuple #[.slice a' m c', .int .i64 ((k : Int) - 1)]) ∧ RdII w' (fun q => w.heap.size ≤ q) a' m c' l ∧ m ≤ 96 ∧ (∀ s ∈ l, s.length ≤ 4) ∧ k ≤ 5 ∧ Grow w w' := by
  go_enter Try.func74, Try.ntmps74
  go_wp2_with fail
  refine (l1New_c _ _ _ bs _ h hn).mono ?_
  rintro e w1 ⟨g, hg, rfl, hC1, hG1⟩
  go_wp2_with fail
  refine (l32Complex_c g _ hC1).mono ?_
  rintro e w2 ⟨a', m, c', l, rfl, hR, hm, h4, hC2, hK2⟩
  go_wp2_with fail
  refine (l1Below_c g 6 _ hC2 (by omega)).mono ?_
  rintro e w3 ⟨k, hk, rfl, hC3, hK3⟩
  have hs1 := hG1.size
  have hgl := hC1.lt
  go_wp2
  go_ret2
  exact ⟨_, _, _, l, k, rfl, (hR.keep hK3 (fun q _ hb e => by omega)).weak (fun q _ hb => by omega), hm, h4, by omega, (hG1.keep hK2 (fun q hq e => by omega)).keep hK3 (fun q hq e => by omega)⟩
set_option maxHeartbeats 1000000 in
set_option maxRecDepth 100000 in
theorem DrawBoundaryOf_c {S : Nat → Prop} (a : Option Addr) (n cap : Nat) (bs : List Int) (w : World) (h : RdB w S a n cap bs) (hn : n ≤ 1048576) :
    Calls Try.prog 32 #[.slice a n cap] w fun e w' => ∃ a' m c' l, ∃ k : Nat, e = .returned (.tuple #[.slice a' m c', .int .i64 ((k : Int) - 1)]) ∧ RdII w' (fun q => w.heap.size ≤ q) a' m c' l ∧ m ≤ 96 ∧ (∀ s ∈ l, s.length ≤ 4) ∧ k ≤ 5 ∧ Grow w w' := by
  go_enter Try.func32, Try.ntmps32
  go_wp2_with fail
  refine (l33Draw_c _ _ _ bs _ h hn).mono ?_
  rintro e w1 ⟨a', m, c', l, k, rfl, hR, hm, h4, hk, hG⟩
  go_wp2
  go_ret2
  exact ⟨_, _, _, l, k, rfl, hR, hm, h4, hk, hG⟩
end Go.Proofs.Ytkafhbedipfgpaa
