/-
  Names of definitions: what the reference's and the program's IsName return, for all strings.
-/
import Derived.Test.YtdnpdfokdibmdaaGreatDoorZBase
namespace Go.Proofs.YtdnpdfokdibmdaaGreatDoor
open Go.RowKit

/-- Every letter is a capital one. -/
def capsTo (s : ByteArray) (k : Nat) : Prop := ∀ j (h : j < s.size), j < k → 65 ≤ (s[j].toNat : Int) ∧ (s[j].toNat : Int) ≤ 90
def isNameL (l : List UInt8) : Bool := l.all (fun c => decide (65 ≤ c.toNat) && decide (c.toNat ≤ 90)) && (decide (1 ≤ l.length) && decide (l.length ≤ 6))
def isNameB (s : ByteArray) : Bool := isNameL s.data.toList
theorem isNameB_iff (s : ByteArray) : isNameB s = true ↔ capsTo s s.size ∧ 1 ≤ s.size ∧ s.size ≤ 6 := by
  have e : s.data.toList.length = s.size := by rw [Array.length_toList]; rfl
  unfold isNameB isNameL capsTo
  rw [Bool.and_eq_true, Bool.and_eq_true, e, List.all_eq_true, decide_eq_true_eq, decide_eq_true_eq]
  refine and_congr_left fun _ => ⟨fun h j hj _ => ?_, fun h c hc => ?_⟩
  · have := h s[j] (List.mem_iff_getElem.2 ⟨j, by omega, rfl⟩)
    simp at this; omega
  · obtain ⟨j, hj, rfl⟩ := List.mem_iff_getElem.1 hc
    have := h j (by omega) (by omega)
    have e2 : s[j] = s.data[j] := rfl
    rw [e2] at this; simp; omega
theorem isNameB_no {s : ByteArray} {k : Nat} (hk : k < s.size) (h : (s[k].toNat : Int) < 65 ∨ 90 < (s[k].toNat : Int)) : isNameB s = false := by
  rw [Bool.eq_false_iff, ne_eq, isNameB_iff]
  intro hh; have := hh.1 k hk hk; omega

theorem capsTo_succ {s : ByteArray} {k : Nat} (h : capsTo s k) (hk : k < s.size) (h1 : 65 ≤ (s[k].toNat : Int)) (h2 : (s[k].toNat : Int) ≤ 90) : capsTo s (k + 1) := fun j hj hlt => by
  by_cases e : j = k
  · subst e; exact ⟨h1, h2⟩
  · exact h j hj (by omega)

set_option maxHeartbeats 400000 in
theorem specIsName_c (s : ByteArray) (w : World) (hs : s.size ≤ maxLen) : Calls Tryz.prog 19 #[.string s] w fun e w' => e = .returned (.bool (isNameB s)) ∧ w = w' := by
  unfold maxLen at hs
  go_enter Tryz.func19, Tryz.ntmps19
  go_wp2
  go_loop [3] (fun i => ∃ k : Nat, k ≤ s.size ∧ i = .int .i64 k ∧ capsTo s k) (fun i => s.size - (intOf i).toNat)
  case atStart => exact ⟨0, Nat.zero_le _, rfl, fun _ _ h => by omega⟩
  case round =>
    obtain ⟨k, hk, rfl, he⟩ := hrel
    have He := Lib.hid he; clear he
    by_cases hlt : k < s.size
    · by_cases h1 : (s[k].toNat : Int) < 65
      · go_wp2
        go_ret
        exact ⟨ret_bool (isNameB_no hlt (by omega)).symm, rfl⟩
      · by_cases h2 : 90 < (s[k].toNat : Int)
        · go_wp2
          go_ret
          exact ⟨ret_bool (isNameB_no hlt (by omega)).symm, rfl⟩
        · go_wp2
          go_round
          case rel => exact ⟨k + 1, by omega, by go_num, capsTo_succ He.out hlt (by omega) (by omega)⟩
          case measure => simp [intOf]; omega
    · have : k = s.size := by omega
      subst this
      go_wp2_with (go_at_call 20; refine (l1In_c _ _ _ _).mono ?_; rintro e w' ⟨rfl, rfl⟩)
      go_ret
      refine ⟨ret_bool ?_, rfl⟩
      have := He.out
      rw [Bool.eq_iff_iff, isNameB_iff]; simp [inB, this]; omega

set_option maxHeartbeats 400000 in
theorem implIsName_c (s : ByteArray) (w : World) (hs : s.size ≤ maxLen) : Calls Tryz.prog 30 #[.string s] w fun e w' => e = .returned (.bool (isNameB s)) ∧ w = w' := by
  unfold maxLen at hs
  go_enter Tryz.func30, Tryz.ntmps30
  go_wp2
  go_loop [6] (fun i => ∃ k : Nat, k ≤ s.size ∧ i = .int .i64 k ∧ capsTo s k) (fun i => s.size - (intOf i).toNat)
  case atStart => exact ⟨0, Nat.zero_le _, rfl, fun _ _ h => by omega⟩
  case round =>
    obtain ⟨k, hk, rfl, he⟩ := hrel
    have He := Lib.hid he; clear he
    by_cases hlt : k < s.size
    · by_cases h1 : (s[k].toNat : Int) < 65
      · go_wp2
        go_ret
        exact ⟨ret_bool (isNameB_no hlt (by omega)).symm, rfl⟩
      · by_cases h2 : 90 < (s[k].toNat : Int)
        · go_wp2
          go_ret
          exact ⟨ret_bool (isNameB_no hlt (by omega)).symm, rfl⟩
        · go_wp2
          go_round
          case rel => exact ⟨k + 1, by omega, by go_num, capsTo_succ He.out hlt (by omega) (by omega)⟩
          case measure => simp [intOf]; omega
    · have : k = s.size := by omega
      subst this
      have := He.out
      by_cases h1 : 1 ≤ s.size
      · go_wp2
        go_ret
        refine ⟨ret_bool ?_, rfl⟩
        rw [Bool.eq_iff_iff, isNameB_iff]; simp [this]; try omega
      · go_wp2
        go_ret
        refine ⟨ret_bool ?_, rfl⟩
        rw [Bool.eq_iff_iff, isNameB_iff]; simp [this]; try omega
end Go.Proofs.YtdnpdfokdibmdaaGreatDoor
