/-
  A simplex without one vertex: the program's 'without' and the reference's 'l32Face'.
-/
import Derived.Test.YthlncohllbmapaaIntss
namespace Go.Proofs.Ythlncohllbmapaa
open Go.RowKit

def del (xs : List Int) (k : Nat) : List Int := xs.take k ++ xs.drop (k + 1)
theorem del_len {xs : List Int} {k : Nat} (h : k < xs.length) : (del xs k).length = xs.length - 1 := by unfold del; simp; omega

set_option maxHeartbeats 1000000 in
set_option maxRecDepth 100000 in
theorem without_c {S : Nat → Prop} (a : Option Addr) (n cap k : Nat) (xs : List Int) (w : World) (h : RdI w S a n cap xs) (hk : k < n) (hn : n ≤ 2097152) :
    Calls Try.prog 78 #[.slice a n cap, .int .i64 k] w fun e w' =>
      ∃ a' c', e = .returned (.slice a' (del xs k).length c') ∧ Own w' 3 1 a' (del xs k).length c' (ints (del xs k)) ∧ (∀ q, blk a' = some q → w.heap.size ≤ q) ∧ Grow w w' := by
  have hl := h.len
  have hle := h.row.le
  have r1 := T_ints.atH (a := a) (n := n) (cap := cap) (k := k) (i := k) rfl (by omega)
  have r2 := T_ints.atL (a := a) (n := n) (cap := cap) (l := k + 1) (i := k + 1) rfl (by omega)
  have d1 := h.pre (k := k) (by omega)
  have d2 := h.sub (l := k + 1) (k := n) (by omega) (Nat.le_refl _)
  go_enter Try.func78, Try.ntmps78
  go_wp2
  refine wp_region_mix (S := Grow w) [1, 2, 3, 5, 6, 7, 8] [0, 4, 9, 10] P_mixed (by kernel_rfl) (fun _ _ _ _ _ h => h) (Grow.refl _).drew ?_
  show wpQuiet _ _ _ (fun a' => wpListS _ _ _ _ [_, _, _, _] a' _) [_, _, _, _, _, _, _] _
  repeat (first | go_big_quiet_skip | (go_big_quiet_want; first | (apply quiet_sliceH (x := .tmp 6) (h := .tmp 7); rfl; exact r1; go_big_quiet_on; simp only [Act.put, List.setIfInBounds_toArray, List.set_cons_succ, List.set_cons_zero]) | (apply quiet_sliceL (x := .tmp 10) (l := .tmp 12); rfl; exact r2; go_big_quiet_on; simp only [Act.put, List.setIfInBounds_toArray, List.set_cons_succ, List.set_cons_zero]) | (go_big_quiet_op; first | go_big_quiet_on | (refine ⟨_, (fun _ _ => rfl), ?_⟩; go_big_quiet_on))))
  refine wpQuiet_nil ?_
  show wpListS _ _ _ _ _ _ _
  refine wpListS_step rfl (fun K hK => ?_)
  go_wp2_with fail
  refine hK _ _ (((Grow.refl w).alloc _ _).drew) ?_
  clear hK K
  have hE : Own (w.alloc (.cells #[] 3)).drew 3 1 (some ⟨w.heap.size, 0, none⟩) 0 0 [] := (Own.fresh (w := w) (by unfold maxLen; omega) rfl).grow (Grow.refl _).drew
  refine wpListS_step rfl (fun K hK => ?_)
  refine wp_app (.tmp 5) (.tmp 8) _ rfl T_ints rfl hE rfl (d1.row.grow ((Grow.refl w).alloc _ _).drew) (ints_one _) (by omega) (by unfold maxLen; omega) ?_
  intro a2 c2 w2 hA2
  have hG2 : Grow w w2 := hA2.grow ((Grow.refl w).alloc _ _).drew (fun g hg => by simp at hg; omega)
  have hB2 : ∀ q, blk a2 = some q → w.heap.size ≤ q := hA2.lo (by simp) (fun g hg => by simp at hg; omega)
  refine hK _ _ hG2 ?_
  clear hK K
  simp only [Act.put, List.setIfInBounds_toArray, List.set_cons_succ, List.set_cons_zero]
  refine wpListS_step rfl (fun K hK => ?_)
  refine wp_app (.tmp 9) (.tmp 13) _ rfl T_ints rfl hA2.own rfl (d2.row.grow hG2) (ints_one _) (by omega) (by unfold maxLen; omega) ?_
  intro a3 c3 w3 hA3
  have hG3 : Grow w w3 := hA3.grow hG2 hB2
  have hB3 : ∀ q, blk a3 = some q → w.heap.size ≤ q := hA3.lo hG2.size hB2
  refine hK _ _ hG3 ?_
  clear hK K
  simp only [Act.put, List.setIfInBounds_toArray, List.set_cons_succ, List.set_cons_zero]
  refine wpListS_step rfl (fun K hK => ?_)
  go_wp2_with fail
  refine hK _ _ hG3 ?_
  clear hK K
  refine wpListS_nil ?_
  go_wp2
  go_ret
  have e1 : (del xs k).length = 0 + k + (n - (k + 1)) := by rw [del_len (by omega)]; omega
  have e2 : [] ++ ints (xs.take k) ++ ints ((xs.drop (k + 1)).take (n - (k + 1))) = ints (del xs k) := by
    unfold del
    have e3 : (xs.drop (k + 1)).take (n - (k + 1)) = xs.drop (k + 1) := take_all (by simp; omega)
    rw [List.nil_append, e3]; simp only [ints, List.map_append]
  rw [e1]
  have hO := hA3.own
  rw [e2] at hO
  exact ⟨a3, c3, rfl, hO, hB3, hG3⟩

set_option maxHeartbeats 1000000 in
set_option maxRecDepth 100000 in
theorem l32Face_c {S : Nat → Prop} (a : Option Addr) (n cap k : Nat) (xs : List Int) (w : World) (h : RdI w S a n cap xs) (hk : k < n) (hn : n ≤ 2097152) :
    Calls Try.prog 72 #[.slice a n cap, .int .i64 k] w fun e w' =>
      ∃ a' c', e = .returned (.slice a' (del xs k).length c') ∧ Own w' 3 1 a' (del xs k).length c' (ints (del xs k)) ∧ (∀ q, blk a' = some q → w.heap.size ≤ q) ∧ Grow w w' := by
  have hl := h.len
  have hle := h.row.le
  have r1 := T_ints.atH (a := a) (n := n) (cap := cap) (k := k) (i := k) rfl (by omega)
  have r2 := T_ints.atL (a := a) (n := n) (cap := cap) (l := k + 1) (i := k + 1) rfl (by omega)
  have d1 := h.pre (k := k) (by omega)
  have d2 := h.sub (l := k + 1) (k := n) (by omega) (Nat.le_refl _)
  go_enter Try.func72, Try.ntmps72
  go_wp2
  refine wp_region_mix (S := Grow w) [1, 2, 3, 5, 6, 7, 8] [0, 4, 9, 10] P_mixed (by kernel_rfl) (fun _ _ _ _ _ h => h) (Grow.refl _).drew ?_
  show wpQuiet _ _ _ (fun a' => wpListS _ _ _ _ [_, _, _, _] a' _) [_, _, _, _, _, _, _] _
  repeat (first | go_big_quiet_skip | (go_big_quiet_want; first | (apply quiet_sliceH (x := .tmp 6) (h := .tmp 7); rfl; exact r1; go_big_quiet_on; simp only [Act.put, List.setIfInBounds_toArray, List.set_cons_succ, List.set_cons_zero]) | (apply quiet_sliceL (x := .tmp 10) (l := .tmp 12); rfl; exact r2; go_big_quiet_on; simp only [Act.put, List.setIfInBounds_toArray, List.set_cons_succ, List.set_cons_zero]) | (go_big_quiet_op; first | go_big_quiet_on | (refine ⟨_, (fun _ _ => rfl), ?_⟩; go_big_quiet_on))))
  refine wpQuiet_nil ?_
  show wpListS _ _ _ _ _ _ _
  refine wpListS_step rfl (fun K hK => ?_)
  go_wp2_with fail
  refine hK _ _ (((Grow.refl w).alloc _ _).drew) ?_
  clear hK K
  have hE : Own (w.alloc (.cells #[] 3)).drew 3 1 (some ⟨w.heap.size, 0, none⟩) 0 0 [] := (Own.fresh (w := w) (by unfold maxLen; omega) rfl).grow (Grow.refl _).drew
  refine wpListS_step rfl (fun K hK => ?_)
  refine wp_app (.tmp 5) (.tmp 8) _ rfl T_ints rfl hE rfl (d1.row.grow ((Grow.refl w).alloc _ _).drew) (ints_one _) (by omega) (by unfold maxLen; omega) ?_
  intro a2 c2 w2 hA2
  have hG2 : Grow w w2 := hA2.grow ((Grow.refl w).alloc _ _).drew (fun g hg => by simp at hg; omega)
  have hB2 : ∀ q, blk a2 = some q → w.heap.size ≤ q := hA2.lo (by simp) (fun g hg => by simp at hg; omega)
  refine hK _ _ hG2 ?_
  clear hK K
  simp only [Act.put, List.setIfInBounds_toArray, List.set_cons_succ, List.set_cons_zero]
  refine wpListS_step rfl (fun K hK => ?_)
  refine wp_app (.tmp 9) (.tmp 13) _ rfl T_ints rfl hA2.own rfl (d2.row.grow hG2) (ints_one _) (by omega) (by unfold maxLen; omega) ?_
  intro a3 c3 w3 hA3
  have hG3 : Grow w w3 := hA3.grow hG2 hB2
  have hB3 : ∀ q, blk a3 = some q → w.heap.size ≤ q := hA3.lo hG2.size hB2
  refine hK _ _ hG3 ?_
  clear hK K
  simp only [Act.put, List.setIfInBounds_toArray, List.set_cons_succ, List.set_cons_zero]
  refine wpListS_step rfl (fun K hK => ?_)
  go_wp2_with fail
  refine hK _ _ hG3 ?_
  clear hK K
  refine wpListS_nil ?_
  go_wp2
  go_ret
  have e1 : (del xs k).length = 0 + k + (n - (k + 1)) := by rw [del_len (by omega)]; omega
  have e2 : [] ++ ints (xs.take k) ++ ints ((xs.drop (k + 1)).take (n - (k + 1))) = ints (del xs k) := by
    unfold del
    have e3 : (xs.drop (k + 1)).take (n - (k + 1)) = xs.drop (k + 1) := take_all (by simp; omega)
    rw [List.nil_append, e3]; simp only [ints, List.map_append]
  rw [e1]
  have hO := hA3.own
  rw [e2] at hO
  exact ⟨a3, c3, rfl, hO, hB3, hG3⟩
end Go.Proofs.Ythlncohllbmapaa
