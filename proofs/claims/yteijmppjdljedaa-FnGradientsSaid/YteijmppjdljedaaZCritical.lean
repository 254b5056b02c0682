/-
  CriticalOf: the simplices that no arrow uses; the program's and the reference's.
-/
import Derived.Test.YteijmppjdljedaaZIsGrad
import Derived.Test.YteijmppjdljedaaZCollapse
namespace Go.Proofs.Yteijmppjdljedaa
open Go.RowKit

def freeOf (l : List (List Int)) (ar : List Arw) : List (List Int) := l.filter fun s => !inArB ar s
noncomputable def critB (l : List (List Int)) (ar : List Arw) : List (List Int) := if isGradB l ar = true then freeOf l ar else []
theorem freeOf_len (l : List (List Int)) (ar : List Arw) : (freeOf l ar).length ≤ l.length := List.length_filter_le _ _
theorem freeOf_yes {l : List (List Int)} {xs : List Int} {ar : List Arw} (h : inArB ar xs = false) : freeOf (l ++ [xs]) ar = freeOf l ar ++ [xs] := by
  unfold freeOf; rw [List.filter_append]; simp [h]
theorem freeOf_no {l : List (List Int)} {xs : List Int} {ar : List Arw} (h : inArB ar xs = true) : freeOf (l ++ [xs]) ar = freeOf l ar := by
  unfold freeOf; rw [List.filter_append]; simp [h]
theorem freeOf_total (l : List (List Int)) (ar : List Arw) : total (freeOf l ar) ≤ total l := by
  induction l with
  | nil => exact Nat.le_refl _
  | cons xs r ih =>
    unfold freeOf at ih ⊢
    rw [List.filter_cons]
    split <;> simp <;> omega
theorem critB_bd (l : List (List Int)) (ar : List Arw) : bdII (critB l ar) ≤ bdII l := by
  unfold critB
  split
  · have := freeOf_total l ar; have := freeOf_len l ar; unfold bdII; omega
  · simp [bdII]

set_option maxHeartbeats 4000000 in
set_option maxRecDepth 100000 in
theorem implCriticalOf_c {S T : Nat → Prop} (a b : Option Addr) (n cap p cap' : Nat) (l : List (List Int)) (ar : List Arw) (w : World) (h : RdII w S a n cap l) (h' : RdA w T b p cap' ar) (hn : n ≤ 1048576) (ht : total l ≤ 1048576) (hm : p ≤ 1048576) (hf : total (flat ar) ≤ 1048576) :
    Calls Try.prog 8 #[.slice a n cap, .slice b p cap'] w fun e w' => ∃ a' m c', e = .returned (.tuple #[.slice a' m c', .bool (isGradB l ar)]) ∧ SepII w' (New w w') a' m c' (critB l ar) ∧ Grow w w' := by
  have hl := h.len
  cases hB : isGradB l ar with
  | false =>
    have he : critB l ar = [] := by unfold critB; rw [hB]; rfl
    rw [he]
    have HB := Lib.hid hB; clear hB he
    go_enter Try.func8, Try.ntmps8
    go_wp2_with fail
    refine (implIsGradient_c _ _ _ _ _ _ l ar _ h h' hn ht hm hf).mono ?_
    rintro e w1 ⟨rfl, hG⟩
    rw [HB.out]
    go_wp2
    go_ret2
    have hS := SepII.fresh0 w1
    exact ⟨_, _, _, rfl, hS.weak fun q _ hq => ⟨by have := hq.1; have := hG.size; omega, hq.2⟩, hG.alloc _ _⟩
  | true =>
    have he : critB l ar = freeOf l ar := by unfold critB; rw [hB]; rfl
    rw [he]
    have HB := Lib.hid hB; clear hB he
    go_enter Try.func8, Try.ntmps8
    go_wp2_with fail
    refine (implIsGradient_c _ _ _ _ _ _ l ar _ h h' hn ht hm hf).mono ?_
    rintro e w1 ⟨rfl, hG1⟩
    rw [HB.out]
    go_wp2
    go_loopw [6, 17] (fun v i wr => ∃ (j m c' : Nat) (a' : Option Addr), j ≤ n ∧ i = .int .i64 j ∧ v = .slice a' m c' ∧ Grow w wr ∧ SepII wr (New w wr) a' m c' (freeOf (l.take j) ar)) (fun _ i _ => n - (intOf i).toNat)
    case atStart => exact ⟨0, 0, 0, _, Nat.zero_le _, rfl, rfl, hG1.alloc _ _, (SepII.fresh0 w1).weak fun q _ hq => ⟨by have := hq.1; have := hG1.size; omega, hq.2⟩⟩
    case round =>
      obtain ⟨j, m, c1, a1, hj, rfl, rfl, hG, hS⟩ := hrel
      by_cases hlt : j < n
      · obtain ⟨bx, off, xs, a', c', rfl, hx, _, hbw, hc, hrd⟩ := (h.grow hG).at hlt
        have hxl : xs.length ≤ 1048576 := by have := total_at hx; omega
        have hml : m ≤ 1048576 := by have := hS.len; have := freeOf_len (l.take j) ar; simp at this; omega
        have Hx := Lib.hid hx; clear hx
        go_wp2_with fail
        refine (inArrows_c _ _ _ _ _ _ ar xs _ (h'.grow hG) hrd (by omega) (by omega)).mono ?_
        rintro e wr2 ⟨rfl, hGi⟩
        replace hG := hG.trans hGi
        replace hrd := hrd.grow hGi
        replace hS := (hS.grow hGi).weak (G := New w wr2) fun q _ hq => ⟨hq.1, by have := hq.2; have := hGi.size; omega⟩
        clear hGi
        obtain ⟨⟨vs, hO, hI⟩, hlo⟩ := hS
        cases hin : inArB ar xs with
        | true =>
          have Hin := Lib.hid hin; clear hin
          go_wp2
          go_roundw
          case rel => exact ⟨j + 1, m, c1, a1, by omega, by go_num, rfl, hG, by rw [take_succ Hx.out, freeOf_no Hin.out]; exact ⟨⟨vs, hO, hI⟩, hlo⟩⟩
          case measure => simp [intOf]; omega
        | false =>
          have Hin := Lib.hid hin; clear hin
          obtain ⟨wr, rfl⟩ : ∃ wr : World, wr = wr2 := ⟨_, rfl⟩
          have hE : Own (wr.alloc (.cells #[] 3)) 3 1 (some ⟨wr.heap.size, 0, none⟩) 0 0 [] := Own.fresh (by unfold maxLen; omega) rfl
          go_wp2_with (first
            | (at_builtin; refine wpList_app rfl (.tmp 25) (.tmp 29) _ rfl T_intss rfl (hO.grow ((hA2.grow ((Grow.refl wr).alloc _ _) (fun g hg => by simp at hg; omega)).alloc _ _)) rfl (Row.built (S := fun _ => True) 1 (by unfold maxLen; omega) rfl trivial) (by simp [Value.oneCell']) (by omega) (by unfold maxLen; omega) ?_; intro a3 c3 w3 hA3)
            | (at_builtin; refine wpList_app rfl (.tmp 26) (.tmp 27) _ rfl T_ints rfl hE rfl (hrd.row.grow ((Grow.refl _).alloc _ _)) (ints_one _) (by omega) (by unfold maxLen; omega) ?_; intro a2 c2 w2 hA2))
          have hG2 : Grow wr w2 := hA2.grow ((Grow.refl wr).alloc _ _) (fun g hg => by simp at hg; omega)
          have hO2 : Own w2 3 1 a2 xs.length c2 (ints xs) := by simpa using hA2.own
          have hB2 : ∀ q, blk a2 = some q → wr.heap.size ≤ q := hA2.lo (by simp) (fun g hg => by simp at hg; omega)
          obtain ⟨hR, hG3⟩ := SepII.copied hI hlo hO2 hrd.rng hG hG2 hB2 hA3
          clear hA2 hA3 hO2 hI hO hE
          go_wp2
          go_roundw
          case rel => exact ⟨j + 1, m + 1, c3, a3, by omega, by go_num, rfl, hG3, by rw [take_succ Hx.out, freeOf_yes Hin.out]; exact hR⟩
          case measure => simp [intOf]; omega
      · go_wp2
        go_ret2
        have : j = n := by omega
        subst this
        rw [take_all hl] at hS
        exact ⟨_, _, _, rfl, hS, hG⟩

theorem inArB_nil (s : List Int) : inArB [] s = false := rfl
end Go.Proofs.Yteijmppjdljedaa
