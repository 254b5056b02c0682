/-
  Simplices: what the reference's and the program's IsSimplex return, for all lists.
-/
import Derived.Test.YthlncohllbmapaaL1In
namespace Go.Proofs.Ythlncohllbmapaa
open Go.RowKit

/-- The first k vertices are in range and ascend. -/
def simpTo (xs : List Int) (k : Nat) : Prop := ∀ j x, j < k → xs[j]? = some x → (0 ≤ x ∧ x ≤ 9) ∧ ∀ y, 0 < j → xs[j - 1]? = some y → y < x
def isSimpB (xs : List Int) : Bool := decide (((∀ x ∈ xs, 0 ≤ x ∧ x ≤ 9) ∧ xs.Pairwise (· < ·)) ∧ (1 ≤ xs.length ∧ xs.length ≤ 4))
theorem simpTo_all {xs : List Int} : simpTo xs xs.length ↔ (∀ x ∈ xs, 0 ≤ x ∧ x ≤ 9) ∧ xs.Pairwise (· < ·) := by
  constructor
  · intro h
    refine ⟨fun x hx => ?_, List.pairwise_iff_getElem.2 fun i j hi hj hij => ?_⟩
    · obtain ⟨j, hj, rfl⟩ := List.mem_iff_getElem.1 hx
      exact (h j _ hj (List.getElem?_eq_getElem hj)).1
    · induction j with
      | zero => omega
      | succ j ih =>
        have h1 := (h (j + 1) _ hj (List.getElem?_eq_getElem hj)).2 xs[j] (by omega) (List.getElem?_eq_getElem (by omega))
        by_cases e : i = j
        · subst e; exact h1
        · have := ih (by omega) (by omega); omega
  · rintro ⟨h1, h2⟩ j x hj hx
    obtain ⟨hj', rfl⟩ := List.getElem?_eq_some_iff.1 hx
    refine ⟨h1 _ (List.getElem_mem hj'), fun y h0 hy => ?_⟩
    obtain ⟨hj2, rfl⟩ := List.getElem?_eq_some_iff.1 hy
    exact List.pairwise_iff_getElem.1 h2 _ _ hj2 hj' (by omega)
theorem simpTo_succ {xs : List Int} {k : Nat} {x : Int} (h : simpTo xs k) (hx : xs[k]? = some x) (h1 : 0 ≤ x) (h2 : x ≤ 9) (h3 : ∀ y, 0 < k → xs[k - 1]? = some y → y < x) : simpTo xs (k + 1) := fun j z hj hz => by
  by_cases e : j = k
  · subst e
    obtain rfl : x = z := Option.some.inj (hx.symm.trans hz)
    exact ⟨⟨h1, h2⟩, h3⟩
  · exact h j z (by omega) hz
theorem isSimpB_yes {xs : List Int} {n : Nat} (hl : xs.length = n) (h : simpTo xs n) : isSimpB xs = inB n 1 4 := by
  subst hl
  unfold isSimpB inB
  have := simpTo_all.1 h
  rw [Bool.eq_iff_iff, decide_eq_true_eq, Bool.and_eq_true, decide_eq_true_eq, decide_eq_true_eq]
  exact ⟨fun h => by omega, fun h => ⟨this, by omega⟩⟩
theorem isSimpB_no {xs : List Int} {k : Nat} {x : Int} (hk : xs[k]? = some x) (h : (x < 0 ∨ 9 < x) ∨ ∃ y, 0 < k ∧ xs[k - 1]? = some y ∧ x ≤ y) : isSimpB xs = false := by
  unfold isSimpB
  rw [decide_eq_false]
  rintro ⟨h1, _⟩
  obtain ⟨hk', _⟩ := List.getElem?_eq_some_iff.1 hk
  have h2 := simpTo_all.2 h1 k x hk' hk
  rcases h with h | ⟨y, h0, hy, hle⟩
  · omega
  · have := h2.2 y h0 hy; omega

set_option maxHeartbeats 1000000 in
theorem specIsSimplex_c {S : Nat → Prop} (a : Option Addr) (n cap : Nat) (xs : List Int) (w : World) (h : RdI w S a n cap xs) (hn : n ≤ 1048576) :
    Calls Try.prog 101 #[.slice a n cap] w fun e w' => e = .returned (.bool (isSimpB xs)) ∧ Qt w w' := by
  have hl := h.len
  go_enter Try.func101, Try.ntmps101
  go_wp2
  go_loopw [3] (fun i wr => Qt w wr ∧ ∃ k : Nat, k ≤ n ∧ i = .int .i64 k ∧ simpTo xs k) (fun i _ => n - (intOf i).toNat)
  case atStart => exact ⟨Qt.refl _, 0, Nat.zero_le _, rfl, fun _ _ h => by omega⟩
  case round =>
    obtain ⟨hG, k, hk, rfl, he⟩ := hrel
    have He := Lib.hid he; clear he
    by_cases hlt : k < n
    · obtain ⟨b, off, x, rfl, hx, hxr, _, hbw, hc⟩ := (h.grow hG.grow).at hlt
      have Hx := Lib.hid hx; clear hx
      by_cases h1 : 0 ≤ x ∧ x ≤ 9
      · have hi : inB x 0 9 = true := by simp [inB, h1]
        obtain ⟨h1a, h1b⟩ := h1
        by_cases hk0 : 0 < k
        · obtain ⟨b2, off2, y, he2, hy, hyr, _, _, hc2⟩ := (h.grow hG.grow).at (k := k - 1) (by omega)
          obtain ⟨rfl, rfl⟩ : b = b2 ∧ off = off2 := by simpa using he2
          have Hy := Lib.hid hy; clear hy he2
          by_cases hxy : x ≤ y
          · go_wp2
            go_quiet ((go_at_call 36; exact Calls.quiet_of_same (l1In_q hi _)))
            go_wp2
            go_ret
            exact ⟨ret_bool (isSimpB_no Hx.out (.inr ⟨y, hk0, Hy.out, hxy⟩)).symm, hG.drewN _⟩
          · go_wp2
            go_quiet ((go_at_call 36; exact Calls.quiet_of_same (l1In_q hi _)))
            go_wp2
            go_roundw
            case rel => exact ⟨hG.drewN _, k + 1, by omega, by go_num, simpTo_succ He.out Hx.out h1a h1b (fun z _ hz => by have := Option.some.inj (Hy.out.symm.trans hz); omega)⟩
            case measure => simp [intOf]; omega
        · go_wp2
          go_quiet ((go_at_call 36; exact Calls.quiet_of_same (l1In_q hi _)))
          go_wp2
          go_roundw
          case rel => exact ⟨hG.drewN _, k + 1, by omega, by go_num, simpTo_succ He.out Hx.out h1a h1b (fun z hz => by omega)⟩
          case measure => simp [intOf]; omega
      · have hi : inB x 0 9 = false := by simp [inB]; omega
        go_wp2
        go_quiet ((go_at_call 36; exact Calls.quiet_of_same (l1In_q hi _)))
        go_wp2
        go_ret
        exact ⟨ret_bool (isSimpB_no Hx.out (.inl (by omega))).symm, hG.drewN _⟩
    · have : k = n := by omega
      subst this
      go_wp2_with (go_at_call 36; refine (l1In_c _ _ _ _).mono ?_; rintro e w' ⟨rfl, rfl⟩)
      go_ret
      exact ⟨ret_bool (isSimpB_yes hl He.out).symm, hG⟩

set_option maxHeartbeats 1000000 in
theorem implIsSimplex_c {S : Nat → Prop} (a : Option Addr) (n cap : Nat) (xs : List Int) (w : World) (h : RdI w S a n cap xs) (hn : n ≤ 1048576) :
    Calls Try.prog 107 #[.slice a n cap] w fun e w' => e = .returned (.bool (isSimpB xs)) ∧ Qt w w' := by
  have hl := h.len
  go_enter Try.func107, Try.ntmps107
  go_wp2
  go_loopw [7] (fun i wr => Qt w wr ∧ ∃ k : Nat, k ≤ n ∧ i = .int .i64 k ∧ simpTo xs k) (fun i _ => n - (intOf i).toNat)
  case atStart => exact ⟨Qt.refl _, 0, Nat.zero_le _, rfl, fun _ _ h => by omega⟩
  case round =>
    obtain ⟨hG, k, hk, rfl, he⟩ := hrel
    have He := Lib.hid he; clear he
    by_cases hlt : k < n
    · obtain ⟨b, off, x, rfl, hx, hxr, _, hbw, hc⟩ := (h.grow hG.grow).at hlt
      have Hx := Lib.hid hx; clear hx
      by_cases h1 : x < 0
      · go_wp2
        all_goals first
          | (go_ret; exact ⟨ret_bool (isSimpB_no Hx.out (.inl (by omega))).symm, hG⟩)
      · by_cases h2 : 9 < x
        · go_wp2
          all_goals first
            | (go_ret; exact ⟨ret_bool (isSimpB_no Hx.out (.inl (by omega))).symm, hG⟩)
        · by_cases hk0 : 0 < k
          · obtain ⟨b2, off2, y, he2, hy, hyr, _, _, hc2⟩ := (h.grow hG.grow).at (k := k - 1) (by omega)
            obtain ⟨rfl, rfl⟩ : b = b2 ∧ off = off2 := by simpa using he2
            have Hy := Lib.hid hy; clear hy he2
            by_cases hxy : x ≤ y
            · go_wp2
              go_ret
              exact ⟨ret_bool (isSimpB_no Hx.out (.inr ⟨y, hk0, Hy.out, hxy⟩)).symm, hG⟩
            · go_wp2
              go_roundw
              case rel => exact ⟨hG, k + 1, by omega, by go_num, simpTo_succ He.out Hx.out (by omega) (by omega) (fun z _ hz => by have := Option.some.inj (Hy.out.symm.trans hz); omega)⟩
              case measure => simp [intOf]; omega
          · go_wp2
            go_roundw
            case rel => exact ⟨hG, k + 1, by omega, by go_num, simpTo_succ He.out Hx.out (by omega) (by omega) (fun z hz => by omega)⟩
            case measure => simp [intOf]; omega
    · have : k = n := by omega
      subst this
      by_cases h1 : 1 ≤ k
      · go_wp2
        go_ret
        refine ⟨ret_bool ?_, hG⟩
        rw [isSimpB_yes hl He.out]; simp [inB]; omega
      · go_wp2
        go_ret
        refine ⟨ret_bool ?_, hG⟩
        rw [isSimpB_yes hl He.out]; simp [inB]; omega
end Go.Proofs.Ythlncohllbmapaa
