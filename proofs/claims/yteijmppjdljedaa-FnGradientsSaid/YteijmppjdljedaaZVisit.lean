/-
  Whether a simplex is in an arrow; whether a way along arrows leads around: the program's functions.
-/
import Derived.Test.YteijmppjdljedaaZAcyc
namespace Go.Proofs.Yteijmppjdljedaa
open Go.RowKit

set_option maxHeartbeats 1000000 in
theorem inArrowsClosure_c {S T : Nat → Prop} (a1 a2 b : Option Addr) (n1 n2 m c1 c2 cap' g : Nat) (x y s : List Int) (w : World) (h1 : RdI w S a1 n1 c1 x) (h2 : RdI w S a2 n2 c2 y) (hg : w.cell? ⟨g, 0, none⟩ = some (.slice b m cap')) (h' : RdI w T b m cap' s) (hn : n1 ≤ 2097152) (hn2 : n2 ≤ 2097152) :
    Calls Try.prog 36 #[.agg #[.slice a1 n1 c1, .slice a2 n2 c2], .pointer (some ⟨g, 0, none⟩)] w fun e w' => e = .returned (.bool (sameI x s || sameI y s)) ∧ Grow w w' := by
  have hG : Grow w (w.alloc (.cells #[.slice a1 n1 c1, .slice a2 n2 c2] 43)) := (Grow.refl w).alloc _ _
  have hb := Blk.new w #[.slice a1 n1 c1, .slice a2 n2 c2] 43
  have hg' := hG.cell hg
  cases hxs : sameI x s with
  | true =>
    have Hxs := Lib.hid hxs; clear hxs
    go_enter Try.func36, Try.ntmps36
    go_wp2_with fail
    refine (equalI_c _ _ _ _ _ _ x s _ (h1.grow hG) (h'.grow hG) hn).mono ?_
    rintro e w1 ⟨rfl, hQ⟩
    rw [Hxs.out]
    go_wp2
    go_ret
    exact ⟨rfl, hG.trans hQ.grow⟩
  | false =>
    have Hxs := Lib.hid hxs; clear hxs
    go_enter Try.func36, Try.ntmps36
    go_wp2_with fail
    refine (equalI_c _ _ _ _ _ _ x s _ (h1.grow hG) (h'.grow hG) hn).mono ?_
    rintro e w1 ⟨rfl, hQ⟩
    rw [Hxs.out]
    have p1 := (hb.grow hQ.grow).cell 1
    simp at p1
    have hg1 := hQ.grow.cell hg'
    go_wp2_with fail
    refine (equalI_c _ _ _ _ _ _ y s _ ((h2.grow hG).grow hQ.grow) ((h'.grow hG).grow hQ.grow) hn2).mono ?_
    rintro e w2 ⟨rfl, hQ2⟩
    go_wp2
    go_ret
    exact ⟨rfl, (hG.trans hQ.grow).trans hQ2.grow⟩

set_option maxHeartbeats 1000000 in
theorem arrowIndex_c {S T : Nat → Prop} (a b : Option Addr) (n m cap cap' g : Nat) (l : List Arw) (s : List Int) (w : World) (h : RdA w S a n cap l) (hg : w.cell? ⟨g, 0, none⟩ = some (.slice b m cap')) (h' : RdI w T b m cap' s) (hn : n ≤ 2097152) (ht : total (flat l) ≤ 2097152) :
    Calls Try.prog 51 #[.slice a n cap, .func (.func 36) #[] #[.pointer (some ⟨g, 0, none⟩)]] w fun e w' => e = .returned (.int .i64 (firstIdx (fun p => sameI p.1 s || sameI p.2 s) l)) ∧ Grow w w' := by
  have hl := h.len
  have Hl := Lib.hid hl; clear hl
  go_enter Try.func51, Try.ntmps51
  go_wp2
  go_loopw [8] (fun i wr => Grow w wr ∧ ∃ k : Nat, k ≤ n ∧ i = .int .i64 k ∧ ∀ y ∈ l.take k, (sameI y.1 s || sameI y.2 s) = false) (fun i _ => n - (intOf i).toNat)
  case atStart => exact ⟨Grow.refl _, 0, Nat.zero_le _, rfl, by simp⟩
  case round =>
    obtain ⟨hG, k, hk, rfl, he⟩ := hrel
    have He := Lib.hid he; clear he
    by_cases hlt : k < n
    · obtain ⟨b1, off1, x, y, a1, c1, a2, c2, rfl, hx, _, hbw, ⟨hc1, hc2⟩, r1, r2⟩ := (h.grow hG).at hlt
      have htot := (flat_total_at hx).2
      have Hx := Lib.hid hx; clear hx
      go_wp2_with fail
      refine (inArrowsClosure_c _ _ _ _ _ _ _ _ _ g x y s _ r1 r2 (hG.cell hg) (h'.grow hG) (by omega) (by omega)).mono ?_
      rintro e w' ⟨rfl, hG1⟩
      cases hxy : (sameI x s || sameI y s) with
      | true =>
        have Hxy := Lib.hid hxy; clear hxy
        go_wp2
        go_ret
        exact ⟨ret_int (firstIdx_at He.out Hx.out Hxy.out).symm, hG.trans hG1⟩
      | false =>
        have Hxy := Lib.hid hxy; clear hxy
        go_wp2
        go_roundw
        case rel =>
          refine ⟨hG.trans hG1, k + 1, by omega, by go_num, fun z hz => ?_⟩
          rw [take_succ Hx.out, List.mem_append, List.mem_singleton] at hz
          rcases hz with hz | rfl
          · exact He.out z hz
          · exact Hxy.out
        case measure => simp [intOf]; omega
    · go_wp2
      go_ret
      have : k = n := by omega
      subst this
      have := He.out
      rw [take_all Hl.out] at this
      exact ⟨ret_int (firstIdx_no this).symm, hG⟩

set_option maxHeartbeats 1000000 in
theorem arrowContains_c {S T : Nat → Prop} (a b : Option Addr) (n m cap cap' g : Nat) (l : List Arw) (s : List Int) (w : World) (h : RdA w S a n cap l) (hg : w.cell? ⟨g, 0, none⟩ = some (.slice b m cap')) (h' : RdI w T b m cap' s) (hn : n ≤ 2097152) (ht : total (flat l) ≤ 2097152) :
    Calls Try.prog 35 #[.slice a n cap, .func (.func 36) #[] #[.pointer (some ⟨g, 0, none⟩)]] w fun e w' => e = .returned (.bool (inArB l s)) ∧ Grow w w' := by
  have hf := Lib.hid (firstIdx_any (fun p : Arw => sameI p.1 s || sameI p.2 s) l)
  go_enter Try.func35, Try.ntmps35
  go_wp2_with fail
  refine (arrowIndex_c _ _ _ _ _ _ g l s _ h hg h' hn ht).mono ?_
  rintro e w1 ⟨rfl, hG1⟩
  go_wp2
  go_ret
  exact ⟨ret_bool hf.out, hG1⟩

set_option maxHeartbeats 1000000 in
theorem inArrows_c {S T : Nat → Prop} (a b : Option Addr) (n m cap cap' : Nat) (l : List Arw) (s : List Int) (w : World) (h : RdA w S a n cap l) (h' : RdI w T b m cap' s) (hn : n ≤ 2097152) (ht : total (flat l) ≤ 2097152) :
    Calls Try.prog 16 #[.slice a n cap, .slice b m cap'] w fun e w' => e = .returned (.bool (inArB l s)) ∧ Grow w w' := by
  have hG : Grow w (w.alloc (.cells #[.slice b m cap'] 32)) := (Grow.refl w).alloc _ _
  have hb : (w.alloc (.cells #[.slice b m cap'] 32)).cell? ⟨w.heap.size, 0, none⟩ = some (.slice b m cap') := (Blk.new w #[.slice b m cap'] 32).cell 0
  go_enter Try.func16, Try.ntmps16
  go_wp2_with fail
  refine (arrowContains_c _ _ _ _ _ _ w.heap.size l s _ (h.grow hG) hb (h'.grow hG) hn ht).mono ?_
  rintro e w1 ⟨rfl, hG1⟩
  go_wp2
  go_ret
  exact ⟨rfl, hG.trans hG1⟩
end Go.Proofs.Yteijmppjdljedaa
