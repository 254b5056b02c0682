/-
  The laws' helpers on []int: copying, measuring, comparing, marking.
-/
import Derived.Test.YtdpjfblkmkjedaaBase
import Derived.Test.YtdpjfblkmkjedaaFacts
namespace Go.Proofs.Ytdpjfblkmkjedaa
open Go.RowKit


set_option maxHeartbeats 400000 in
theorem toIntS_c {S : Nat → Prop} (a : Option Addr) (n cap : Nat) (xs : List Int) (w : World) (h : RdI w S a n cap xs) (hn : n ≤ 1048576) :
    Calls Try.prog 12 #[.slice a n cap] w fun e w' =>
      e = .returned (.slice (some ⟨w.heap.size, 0, none⟩) n n) ∧ Own w' 3 1 (some ⟨w.heap.size, 0, none⟩) n n (ints xs) ∧ Grow w w' := by
  have hmk := T_ints.make (n := n) (by omega) (by unfold maxLen; omega)
  have hl := h.len
  go_enter Try.func12, Try.ntmps12
  go_wp2
  go_loopw [4] (fun i wr => ∃ k : Nat, k ≤ n ∧ i = .int .i64 k ∧ Grow w wr ∧ Own wr 3 1 (some ⟨w.heap.size, 0, none⟩) n n (ints (xs.take k) ++ List.replicate (n - k) (.int .i64 0))) (fun i _ => n - (intOf i).toNat)
  case atStart => 
    refine ⟨0, Nat.zero_le _, rfl, (Grow.refl w).alloc _ _, ?_⟩
    have := Own.fresh (w := w) (e := 3) (sz := 1) (cs := madeCells #[.int .i64 0] (n * 1)) (n := n) (by unfold maxLen; omega) (by simp [madeCells])
    simpa [toList_madeCells_one] using this
  case round =>
    obtain ⟨k, hk, rfl, hG, hO⟩ := hrel
    by_cases hlt : k < n
    · obtain ⟨b, off, x, rfl, hx, hxr, _, hbw, hc⟩ := (h.grow hG).at hlt
      have hfr := hO.free k
      have hce := hO.cell (fill_at (len_ints_take hl hk) hlt)
      simp only at hfr hce
      go_wp2
      go_roundw
      case rel =>
        refine ⟨k + 1, by omega, by go_num, hG.setCell (Nat.le_refl _) _, ?_⟩
        have := hO.set k (.int .i64 x)
        rw [fill_set (len_ints_take hl hk) hlt] at this
        rw [ints_take hx]; exact this
      case measure => simp [intOf]; omega
    · go_wp2
      go_ret
      have : k = n := by omega
      subst this
      refine ⟨rfl, ?_, hG⟩
      simpa [take_all hl] using hO


/-- What is left of a measure. -/
def szI (left : Int) (n : Nat) : Int := if left < n then -1 else left - n

set_option maxHeartbeats 400000 in
theorem szIntS_c (a : Option Addr) (n cap : Nat) (left : Int) (w : World) (hn : n ≤ maxLen) (h0 : 0 ≤ left) (h1 : left ≤ 1048576) :
    Calls Try.prog 40 #[.slice a n cap, .int .i64 left] w fun e w' => e = .returned (.int .i64 (szI left n)) ∧ w = w' := by
  unfold maxLen at hn
  go_enter Try.func40, Try.ntmps40
  go_wp2
  all_goals go_ret
  · exact ⟨ret_int (by unfold szI; rw [if_pos (by omega)]), rfl⟩
  · exact ⟨ret_int (by unfold szI; rw [if_neg (by omega)]), rfl⟩

def sameI (xs ys : List Int) : Bool := decide (xs = ys)
theorem sameI_self (xs : List Int) : sameI xs xs = true := by simp [sameI]

set_option maxHeartbeats 400000 in
theorem eqIntS_c {S T : Nat → Prop} (a b : Option Addr) (n m cap cap' : Nat) (xs ys : List Int) (w : World) (h : RdI w S a n cap xs) (h' : RdI w T b m cap' ys) (hn : n ≤ 2097152) :
    Calls Try.prog 14 #[.slice a n cap, .slice b m cap'] w fun e w' => e = .returned (.bool (sameI xs ys)) ∧ Grow w w' := by
  have hl := h.len
  have hl' := h'.len
  by_cases hnm : n = m
  · subst hnm
    go_enter Try.func14, Try.ntmps14
    go_wp2
    go_loopw [5] (fun i wr => Grow w wr ∧ ∃ k : Nat, k ≤ n ∧ i = .int .i64 k ∧ xs.take k = ys.take k) (fun i _ => n - (intOf i).toNat)
    case atStart => exact ⟨Grow.refl _, 0, Nat.zero_le _, rfl, rfl⟩
    case round =>
      obtain ⟨hG, k, hk, rfl, he⟩ := hrel
      have He := Lib.hid he; clear he
      by_cases hlt : k < n
      · obtain ⟨b1, off1, x, rfl, hx, hxr, _, hbw, hc⟩ := (h.grow hG).at hlt
        obtain ⟨b2, off2, y, rfl, hy, hyr, _, hbw2, hc2⟩ := (h'.grow hG).at hlt
        have Hx := Lib.hid hx; clear hx
        have Hy := Lib.hid hy; clear hy
        by_cases hxy : x = y
        · subst hxy
          go_wp2
          go_quiet (fail)
          go_wp2
          go_roundw
          case rel => exact ⟨hG.drewN _, k + 1, by omega, by go_num, by rw [take_succ Hx.out, take_succ Hy.out, He.out]⟩
          case measure => simp [intOf]; omega
        · have hxy' : (x == y) = false := by simpa using hxy
          go_wp2
          go_quiet (fail)
          go_wp2
          go_ret
          refine ⟨ret_bool (Eq.symm (decide_eq_false ?_)), hG.drewN _⟩
          intro e; subst e
          exact hxy (Option.some.inj (Hx.out.symm.trans Hy.out))
      · go_wp2
        go_ret
        have : k = n := by omega
        subst this
        refine ⟨ret_bool (Eq.symm (decide_eq_true ?_)), hG⟩
        have := He.out
        rwa [take_all hl, take_all hl'] at this
  · have hb : ((n : Int) == (m : Int)) = false := by simp; omega
    go_enter Try.func14, Try.ntmps14
    go_wp2
    go_ret
    refine ⟨ret_bool (Eq.symm (decide_eq_false ?_)), Grow.refl _⟩
    intro e; subst e; omega
end Go.Proofs.Ytdpjfblkmkjedaa
