/-
  leadsAround: each arrow is visited.
-/
import Derived.Test.YtkafhbedipfgpaaLeads
namespace Go.Proofs.Ytkafhbedipfgpaa
open Go.RowKit

set_option maxHeartbeats 4000000 in
set_option maxRecDepth 100000 in
theorem leadsAround_c {S : Nat → Prop} (a : Option Addr) (n cap : Nat) (l : List Arw) (w : World) (h : RdA w S a n cap l) (hn : n ≤ 1048576) (ht : total (flat l) ≤ 1048576) :
    Calls Try.prog 87 #[.slice a n cap] w fun e w' => e = .returned (.bool (!acycB l)) ∧ Grow w w' := by
  have hl := h.len
  have hmk := T_ints.make (n := n) (by omega) (by unfold maxLen; omega)
  obtain ⟨fv, hfv⟩ : ∃ fv, fv = Value.func (.func 111) #[] #[.pointer (some ⟨w.heap.size + 1 + 1, 0, none⟩), .pointer (some ⟨w.heap.size, 0, none⟩), .pointer (some ⟨w.heap.size + 1 + 1 + 1, 0, none⟩)] := ⟨_, rfl⟩
  obtain ⟨w1, hw1⟩ : ∃ w1, w1 = (((w.alloc (.cells #[.slice a n cap] 47)).alloc (.cells (madeCells #[.int .i64 0] n) 3)).alloc (.cells #[.slice (some ⟨w.heap.size + 1, 0, none⟩) n n] 28)).alloc (.cells #[fv] 97) := ⟨_, rfl⟩
  have hG1 : Grow w w1 := by rw [hw1]; exact (((((Grow.refl w).alloc _ _).alloc _ _).alloc _ _).alloc _ _)
  have hs1 : w1.heap.size = w.heap.size + 4 := by rw [hw1]; simp
  have b0 : Blk w1 w.heap.size #[.slice a n cap] 47 := by rw [hw1]; exact (((Blk.new _ _ _).alloc _).alloc _).alloc _
  have b1 : Own w1 3 1 (some ⟨w.heap.size + 1, 0, none⟩) n n (ints (List.replicate n 0)) := by
    rw [hw1]
    have := Own.freshAt (w := w.alloc (.cells #[.slice a n cap] 47)) (e := 3) (sz := 1) (cs := madeCells #[.int .i64 0] n) (n := n) (g := w.heap.size + 1) (by simp) (by unfold maxLen; omega) (by simp [madeCells])
    rw [toList_madeCells_one] at this
    exact (by simpa [ints] using this : Own _ 3 1 (some ⟨w.heap.size + 1, 0, none⟩) n n (ints (List.replicate n 0))).grow (((Grow.refl _).alloc _ _).alloc _ _)
  have b2 : Blk w1 (w.heap.size + 1 + 1) #[.slice (some ⟨w.heap.size + 1, 0, none⟩) n n] 28 := by rw [hw1]; exact (Blk.newAt _ _ _ (by simp)).alloc _
  have b3 : Blk w1 (w.heap.size + 1 + 1 + 1) #[fv] 97 := by rw [hw1]; exact Blk.newAt _ _ _ (by simp)
  have hM : VMem w1 l (w.heap.size + 1 + 1) w.heap.size (w.heap.size + 1 + 1 + 1) (w.heap.size + 1) n a cap :=
    ⟨b2.cell 0, b0.cell 0, by rw [← hfv]; exact b3.cell 0, (((h.weak (T := fun b => b < w.heap.size) (fun b hb _ => hb)).grow hG1).weak fun b _ hb => by omega), by omega, by omega, by omega⟩
  have Hl := Lib.hid hl; clear hl
  have Hw1 := Lib.hid hw1; have Hfv := Lib.hid hfv
  have hca1 := hM.ha; have hcv1 := hM.hv
  rw [Hfv.out] at Hw1
  clear hw1 hfv b0 b2 b3
  go_enter Try.func87, Try.ntmps87
  go_wp2
  rw [← Hfv.out] at Hw1 ⊢
  rw [← Hw1.out]
  go_loopw [12] (fun q wr => Keep (fun q => q ≠ w.heap.size + 1) w1 wr ∧ ∃ (k : Nat) (s : List Int), k ≤ n ∧ q = .int .i64 k ∧ Own wr 3 1 (some ⟨w.heap.size + 1, 0, none⟩) n n (ints s) ∧ VOk l s ∧ (∀ j : Nat, s[j]? ≠ some 1) ∧ ∀ j : Nat, j < k → s[j]? = some 2) (fun q _ => n - (intOf q).toNat)
  case atStart => exact ⟨Keep.refl _ _, 0, _, Nat.zero_le _, rfl, b1, by rw [← Hl.out]; exact VOk.start l, fun j e => (by rw [List.getElem?_replicate] at e; split at e <;> simp at e), fun j hj => by omega⟩
  case round =>
    clear b1 hca1 hcv1
    obtain ⟨hK, k, s, hk, rfl, hOs, hok, hno, hdone⟩ := hrel
    have hMr := hM.keep hK
    have hcv := hMr.hv
    have Hno := Lib.hid hno; have Hdone := Lib.hid hdone
    clear hno hdone
    by_cases hlt : k < n
    · go_wp2_with fail
      refine (visit_c l _ _ _ _ n a cap hn ht (s.count 0 + 1) s k _ (by omega) hlt hMr hOs hok (VPre.top Hno.out k)).mono ?_
      rintro e w2 ⟨bb, st', rfl, hO2, hK2, hres⟩
      cases bb with
      | true =>
        go_wp2
        go_ret
        exact ⟨ret_bool (by rw [HasCyc.not hres]; rfl), hG1.keep (hK.trans hK2) fun q hq => by omega⟩
      | false =>
        go_wp2
        go_roundw
        case rel =>
          simp only [Bool.false_eq_true, if_false] at hres
          refine ⟨hK.trans hK2, k + 1, st', by omega, by go_num, hO2, hres.ok, fun j e => Hno.out j ((hres.one j).1 e), fun j hj => ?_⟩
          by_cases e : j = k
          · subst e; exact hres.done
          · exact hres.two j (Hdone.out j (by omega))
        case measure => simp [intOf]; omega
    · have hkn : k = n := by omega
      subst hkn
      go_wp2
      go_ret
      exact ⟨ret_bool (by rw [hok.none (fun j hj => Hdone.out j (by rw [← Hl.out]; exact hj))]; rfl), hG1.keep hK fun q hq => by omega⟩
end Go.Proofs.Ytkafhbedipfgpaa
