/-
  The laws' helpers on []int: copying, measuring, comparing, marking.
-/
import Derived.Test.YthlncohllbmapaaBase
import Derived.Test.YthlncohllbmapaaFacts
namespace Go.Proofs.Ythlncohllbmapaa
open Go.RowKit


set_option maxHeartbeats 400000 in
theorem toIntS_c {S : Nat → Prop} (a : Option Addr) (n cap : Nat) (xs : List Int) (w : World) (h : RdI w S a n cap xs) (hn : n ≤ 1048576) :
    Calls Try.prog 26 #[.slice a n cap] w fun e w' =>
      e = .returned (.slice (some ⟨w.heap.size, 0, none⟩) n n) ∧ Own w' 3 1 (some ⟨w.heap.size, 0, none⟩) n n (ints xs) ∧ Grow w w' := by
  have hmk := T_ints.make (n := n) (by omega) (by unfold maxLen; omega)
  have hl := h.len
  go_enter Try.func26, Try.ntmps26
  go_wp2
  go_loopw [4] (fun i wr => ∃ k : Nat, k ≤ n ∧ i = .int .i64 k ∧ Grow w wr ∧ Own wr 3 1 (some ⟨w.heap.size, 0, none⟩) n n (ints (xs.take k) ++ List.replicate (n - k) (.int .i64 0))) (fun i _ => n - (intOf i).toNat)
  case atStart => 
    refine ⟨0, Nat.zero_le _, rfl, (Grow.refl w).alloc _ _, ?_⟩
    have := Own.fresh (w := w) (e := 3) (sz := 1) (cs := madeCells #[.int .i64 0] (n * 1)) (n := n) (by unfold maxLen; omega) (by simp [madeCells])
    simpa [toList_madeCells_one] using this
  case round =>
    obtain ⟨k, hk, rfl, hG, hO⟩ := hrel
    by_cases hlt : k < n
    · obtain ⟨b, off, x, rfl, hx, hxr, _, hbw, hc⟩ := (h.grow hG).at hlt
      have hfr := hO.free k
      have hce := hO.cell (fill_at (len_ints_take hl hk) hlt)
      simp only at hfr hce
      go_wp2
      go_roundw
      case rel =>
        refine ⟨k + 1, by omega, by go_num, hG.setCell (Nat.le_refl _) _, ?_⟩
        have := hO.set k (.int .i64 x)
        rw [fill_set (len_ints_take hl hk) hlt] at this
        rw [ints_take hx]; exact this
      case measure => simp [intOf]; omega
    · go_wp2
      go_ret
      have : k = n := by omega
      subst this
      refine ⟨rfl, ?_, hG⟩
      simpa [take_all hl] using hO


/-- What is left of a measure. -/
def szI (left : Int) (n : Nat) : Int := if left < n then -1 else left - n

set_option maxHeartbeats 400000 in
theorem szIntS_c (a : Option Addr) (n cap : Nat) (left : Int) (w : World) (hn : n ≤ maxLen) (h0 : 0 ≤ left) (h1 : left ≤ 1048576) :
    Calls Try.prog 29 #[.slice a n cap, .int .i64 left] w fun e w' => e = .returned (.int .i64 (szI left n)) ∧ w = w' := by
  unfold maxLen at hn
  go_enter Try.func29, Try.ntmps29
  go_wp2
  all_goals go_ret
  · exact ⟨ret_int (by unfold szI; rw [if_pos (by omega)]), rfl⟩
  · exact ⟨ret_int (by unfold szI; rw [if_neg (by omega)]), rfl⟩

def sameI (xs ys : List Int) : Bool := decide (xs = ys)
theorem sameI_self (xs : List Int) : sameI xs xs = true := by simp [sameI]

set_option maxHeartbeats 400000 in
theorem eqIntS_c {S T : Nat → Prop} (a b : Option Addr) (n m cap cap' : Nat) (xs ys : List Int) (w : World) (h : RdI w S a n cap xs) (h' : RdI w T b m cap' ys) (hn : n ≤ 2097152) :
    Calls Try.prog 28 #[.slice a n cap, .slice b m cap'] w fun e w' => e = .returned (.bool (sameI xs ys)) ∧ Qt w w' := by
  have hl := h.len
  have hl' := h'.len
  by_cases hnm : n = m
  · subst hnm
    go_enter Try.func28, Try.ntmps28
    go_wp2
    go_loopw [5] (fun i wr => Qt w wr ∧ ∃ k : Nat, k ≤ n ∧ i = .int .i64 k ∧ xs.take k = ys.take k) (fun i _ => n - (intOf i).toNat)
    case atStart => exact ⟨Qt.refl _, 0, Nat.zero_le _, rfl, rfl⟩
    case round =>
      obtain ⟨hG, k, hk, rfl, he⟩ := hrel
      have He := Lib.hid he; clear he
      by_cases hlt : k < n
      · obtain ⟨b1, off1, x, rfl, hx, hxr, _, hbw, hc⟩ := (h.grow hG.grow).at hlt
        obtain ⟨b2, off2, y, rfl, hy, hyr, _, hbw2, hc2⟩ := (h'.grow hG.grow).at hlt
        have Hx := Lib.hid hx; clear hx
        have Hy := Lib.hid hy; clear hy
        by_cases hxy : x = y
        · subst hxy
          go_wp2
          go_quiet (fail)
          go_wp2
          go_roundw
          case rel => exact ⟨hG.drewN _, k + 1, by omega, by go_num, by rw [take_succ Hx.out, take_succ Hy.out, He.out]⟩
          case measure => simp [intOf]; omega
        · have hxy' : (x == y) = false := by simpa using hxy
          go_wp2
          go_quiet (fail)
          go_wp2
          go_ret
          refine ⟨ret_bool (Eq.symm (decide_eq_false ?_)), hG.drewN _⟩
          intro e; subst e
          exact hxy (Option.some.inj (Hx.out.symm.trans Hy.out))
      · go_wp2
        go_ret
        have : k = n := by omega
        subst this
        refine ⟨ret_bool (Eq.symm (decide_eq_true ?_)), hG⟩
        have := He.out
        rwa [take_all hl, take_all hl'] at this
  · have hb : ((n : Int) == (m : Int)) = false := by simp; omega
    go_enter Try.func28, Try.ntmps28
    go_wp2
    go_ret
    refine ⟨ret_bool (Eq.symm (decide_eq_false ?_)), Qt.refl _⟩
    intro e; subst e; omega

/-- The numbers from k on. -/
def markI (n k : Nat) : List Int := (List.range n).map fun (i : Nat) => ((k + i : Nat) : Int)
@[simp] theorem markI_len (n k : Nat) : (markI n k).length = n := by simp [markI]
theorem markI_at {n k i : Nat} (h : i < n) : (markI n k)[i]? = some ((k + i : Nat) : Int) := by simp [markI, h]
theorem markI_rng {n k : Nat} (h : n + k ≤ 4294967296) : ∀ x ∈ markI n k, I64 x := by
  intro x hx
  obtain ⟨i, hi, rfl⟩ := List.mem_map.1 hx
  simp at hi
  unfold I64; omega
theorem set_mark {xs : List Int} {n k i : Nat} (hl : xs.length = n) (h : i < n) : (ints ((markI n k).take i) ++ ints (xs.drop i)).set i (.int .i64 ((k + i : Nat) : Int)) = ints ((markI n k).take (i + 1)) ++ ints (xs.drop (i + 1)) := by
  have h1 : (ints ((markI n k).take i)).length = i := by simp; omega
  rw [List.set_append_right _ _ (by omega), h1, Nat.sub_self, ints_take (markI_at h), List.drop_eq_getElem_cons (show i < xs.length by omega)]
  simp only [ints, List.map_cons, List.set_cons_zero, List.append_assoc, List.cons_append, List.nil_append]

set_option maxHeartbeats 400000 in
theorem markIntS_c (a : Option Addr) (n cap k : Nat) (xs : List Int) (w : World) (h : Own w 3 1 a n cap (ints xs)) (hn : n + k ≤ 4294967296) :
    Calls Try.prog 40 #[.slice a n cap, .int .i64 k] w fun e w' =>
      e = .returned (.int .i64 ((k + n : Nat) : Int)) ∧ Own w' 3 1 a n cap (ints (markI n k)) ∧ Keep (fun g => blk a ≠ some g) w w' := by
  have hl : xs.length = n := by simpa using h.len
  go_enter Try.func40, Try.ntmps40
  go_wp2
  go_loopw [1, 5] (fun q i wr => ∃ j : Nat, j ≤ n ∧ i = .int .i64 j ∧ q = .int .i64 ((k + j : Nat) : Int) ∧ Own wr 3 1 a n cap (ints ((markI n k).take j) ++ ints (xs.drop j)) ∧ Keep (fun g => blk a ≠ some g) w wr) (fun _ i _ => n - (intOf i).toNat)
  case atStart => exact ⟨0, Nat.zero_le _, rfl, rfl, by simpa using h, Keep.refl _ _⟩
  case round =>
    obtain ⟨j, hj, rfl, rfl, hO, hK⟩ := hrel
    by_cases hlt : j < n
    · cases a with
      | none => have := h.nil rfl; have := h.le; omega
      | some p =>
        have hp := (hO.block p rfl).1
        have hce : ∃ c, (ints ((markI n k).take j) ++ ints (xs.drop j))[j]? = some c := by
          rw [List.getElem?_append_right (by simp; omega)]
          exact ⟨_, List.getElem?_eq_getElem (by simp; omega)⟩
        obtain ⟨c, hc⟩ := hce
        have hfr := hO.free j
        have hcell := hO.cell hc
        obtain ⟨pb, po, ps⟩ := p
        simp only [Addr.mk.injEq, true_and] at hp
        obtain ⟨rfl, rfl⟩ := hp
        simp only at hfr hcell
        have Hc := Lib.hid hc; clear hc
        go_wp2
        go_roundw
        case rel =>
          refine ⟨j + 1, by omega, by go_num, by go_num, ?_, hK.setCell (p := ⟨_, j, none⟩) (fun _ e => e rfl) _⟩
          have := hO.set j (.int .i64 ((k + j : Nat) : Int))
          rw [set_mark hl hlt] at this
          simpa using this
        case measure => simp [intOf]; omega
    · go_wp2
      go_ret
      have : j = n := by omega
      subst this
      refine ⟨ret_int rfl, ?_, hK⟩
      have hd : xs.drop j = [] := by rw [← hl]; simp
      rw [hd, take_all (markI_len _ _)] at hO
      simpa using hO

set_option maxHeartbeats 400000 in
theorem heldIntS_c {S : Nat → Prop} (a : Option Addr) (n cap k : Nat) (w : World) (h : RdI w S a n cap (markI n k)) (hn : n + k ≤ 4294967296) :
    Calls Try.prog 41 #[.slice a n cap, .int .i64 k] w fun e w' => e = .returned (.int .i64 ((k + n : Nat) : Int)) ∧ w = w' := by
  go_enter Try.func41, Try.ntmps41
  go_wp2
  go_loop [1, 5] (fun q i => ∃ j : Nat, j ≤ n ∧ i = .int .i64 j ∧ q = .int .i64 ((k + j : Nat) : Int)) (fun _ i => n - (intOf i).toNat)
  case atStart => exact ⟨0, Nat.zero_le _, rfl, rfl⟩
  case round =>
    obtain ⟨j, hj, rfl, rfl⟩ := hrel
    by_cases hlt : j < n
    · obtain ⟨b, off, x, rfl, hx, hxr, _, hbw, hc⟩ := h.at hlt
      rw [markI_at hlt] at hx
      obtain rfl := Option.some.inj hx
      clear hx
      go_wp2
      go_round
      case rel => exact ⟨j + 1, by omega, by go_num, by go_num⟩
      case measure => simp [intOf]; omega
    · go_wp2
      go_ret
      have : j = n := by omega
      subst this
      exact ⟨ret_int rfl, rfl⟩
end Go.Proofs.Ythlncohllbmapaa
