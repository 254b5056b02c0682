/-
  The reference's numbers with marks: sums, products, quotients; cells; whether a mark is in a list.
-/
import Derived.Test.YthlncohllbmapaaHermE
namespace Go.Proofs.Ythlncohllbmapaa
open Go.RowKit

theorem l1Fit_c (n : Int) (w : World) : Calls Try.prog 119 #[.int .i64 n] w fun e w' => e = .returned (.int .i64 (fitB n)) ∧ w = w' := by
  cases h : inB n (-400000000) 400000000 with
  | true =>
    have e : fitB n = n := fitB_ok h
    have H := Lib.hid h; have E := Lib.hid e; clear h e
    go_enter Try.func119, Try.ntmps119
    go_wp2_with fail
    refine (l1In_c _ _ _ _).mono ?_
    rintro e w' ⟨rfl, rfl⟩
    rw [H.out]
    go_wp2
    go_ret
    exact ⟨by rw [E.out]; rfl, rfl⟩
  | false =>
    have e : fitB n = badN := fitB_bad h
    have H := Lib.hid h; have E := Lib.hid e; clear h e
    go_enter Try.func119, Try.ntmps119
    go_wp2_with fail
    refine (l1In_c _ _ _ _).mono ?_
    rintro e w' ⟨rfl, rfl⟩
    rw [H.out]
    go_wp2
    go_ret
    exact ⟨by rw [E.out]; rfl, rfl⟩
theorem l1Add_c (a b : Int) (w : World) (ha : NumS a) (hb : NumS b) : Calls Try.prog 87 #[.int .i64 a, .int .i64 b] w fun e w' => e = .returned (.int .i64 (addS a b)) ∧ w = w' := by
  by_cases h1 : a = -4611686018427387904
  · have E := Lib.hid (show addS a b = badN by unfold addS; rw [if_pos (.inl h1)])
    subst h1
    go_enter Try.func87, Try.ntmps87
    go_wp2
    go_ret
    exact ⟨by rw [E.out]; rfl, rfl⟩
  · by_cases h2 : b = -4611686018427387904
    · have E := Lib.hid (show addS a b = badN by unfold addS; rw [if_pos (.inr h2)])
      subst h2
      go_enter Try.func87, Try.ntmps87
      go_wp2
      go_ret
      exact ⟨by rw [E.out]; rfl, rfl⟩
    · have E := Lib.hid (show addS a b = fitB (a + b) by unfold addS; rw [if_neg (by rintro (h | h); exact h1 h; exact h2 h)])
      have e1 : (a == -4611686018427387904) = false := by simpa using h1
      have e2 : (b == -4611686018427387904) = false := by simpa using h2
      have h3 : -400000000 ≤ a ∧ a ≤ 400000000 := ha.resolve_right h1
      have h4 : -400000000 ≤ b ∧ b ≤ 400000000 := hb.resolve_right h2
      go_enter Try.func87, Try.ntmps87
      go_wp2_with fail
      refine (l1Fit_c _ _).mono ?_
      rintro e w' ⟨rfl, rfl⟩
      go_wp2
      go_ret
      exact ⟨by rw [E.out]; rfl, rfl⟩
theorem l1Mul_c (a b : Int) (w : World) (ha : NumS a) (hb : NumS b) : Calls Try.prog 88 #[.int .i64 a, .int .i64 b] w fun e w' => e = .returned (.int .i64 (mulS a b)) ∧ w = w' := by
  by_cases h1 : a = -4611686018427387904
  · have E := Lib.hid (show mulS a b = badN by unfold mulS; rw [if_pos (.inl h1)])
    subst h1
    go_enter Try.func88, Try.ntmps88
    go_wp2
    go_ret
    exact ⟨by rw [E.out]; rfl, rfl⟩
  · by_cases h2 : b = -4611686018427387904
    · have E := Lib.hid (show mulS a b = badN by unfold mulS; rw [if_pos (.inr h2)])
      subst h2
      go_enter Try.func88, Try.ntmps88
      go_wp2
      go_ret
      exact ⟨by rw [E.out]; rfl, rfl⟩
    · have E := Lib.hid (show mulS a b = fitB (a * b) by unfold mulS; rw [if_neg (by rintro (h | h); exact h1 h; exact h2 h)])
      have e1 : (a == -4611686018427387904) = false := by simpa using h1
      have e2 : (b == -4611686018427387904) = false := by simpa using h2
      have h3 : -400000000 ≤ a ∧ a ≤ 400000000 := ha.resolve_right h1
      have h4 : -400000000 ≤ b ∧ b ≤ 400000000 := hb.resolve_right h2
      have h5 := mul_rng h3 h4
      have u : IntKind.i64.wrap (a * b) = a * b := IntWalk.i64_in _ (by omega)
      have u2 : wrap64 (a * b) = a * b := by unfold wrap64; omega
      clear h5
      go_enter Try.func88, Try.ntmps88
      go_wp2_with fail
      refine (l1Fit_c _ _).mono ?_
      rintro e w' ⟨rfl, rfl⟩
      go_wp2
      go_ret
      exact ⟨by rw [E.out]; rfl, rfl⟩
theorem l1Abs_c (a : Int) (w : World) (h : -9223372036854775807 ≤ a ∧ a ≤ 9223372036854775807) : Calls Try.prog 118 #[.int .i64 a] w fun e w' => e = .returned (.int .i64 (a.natAbs : Int)) ∧ w = w' := by
  go_enter Try.func118, Try.ntmps118
  go_wp2
  all_goals (go_ret; exact ⟨ret_int (by omega), rfl⟩)
def hasBad (xs : List Int) : Bool := xs.any fun x => x == badN
theorem hasBad_iff {xs : List Int} : hasBad xs = true ↔ badN ∈ xs := by unfold hasBad; simp
set_option maxHeartbeats 1000000 in
theorem l1Bads_c {S : Nat → Prop} (a : Option Addr) (n cap : Nat) (xs : List Int) (w : World) (h : RdI w S a n cap xs) (hn : n ≤ 2097152) :
    Calls Try.prog 89 #[.slice a n cap] w fun e w' => e = .returned (.bool (hasBad xs)) ∧ Qt w w' := by
  have hl := h.len
  go_enter Try.func89, Try.ntmps89
  go_wp2
  go_loopw [3] (fun i wr => Qt w wr ∧ ∃ k : Nat, k ≤ n ∧ i = .int .i64 k ∧ ∀ x ∈ xs.take k, x ≠ badN) (fun i _ => n - (intOf i).toNat)
  case atStart => exact ⟨Qt.refl _, 0, Nat.zero_le _, rfl, by simp⟩
  case round =>
    obtain ⟨hG, k, hk, rfl, hall⟩ := hrel
    have Hall := Lib.hid hall; clear hall
    by_cases hlt : k < n
    · obtain ⟨b1, off1, x, rfl, hx, hxr, _, hbw, hc⟩ := (h.grow hG.grow).at hlt
      have Hx := Lib.hid hx; clear hx
      by_cases hb : x = -4611686018427387904
      · have E := Lib.hid (hasBad_iff.2 (by rw [show badN = x from hb.symm]; exact List.mem_of_getElem? Hx.out))
        subst hb
        go_wp2
        go_ret
        exact ⟨by rw [E.out]; rfl, hG⟩
      · go_wp2
        go_roundw
        case rel =>
          refine ⟨hG, k + 1, by omega, by go_num, fun z hz => ?_⟩
          rw [take_succ Hx.out, List.mem_append, List.mem_singleton] at hz
          rcases hz with hz | rfl
          · exact Hall.out z hz
          · exact hb
        case measure => simp [intOf]; omega
    · have E := Lib.hid (show hasBad xs = false by
        rw [Bool.eq_false_iff]; intro e
        have := hasBad_iff.1 e
        rw [← take_all (l := xs) (n := k) (by omega)] at this
        exact Hall.out _ this rfl)
      go_wp2
      go_ret
      exact ⟨by rw [E.out]; rfl, hG⟩
end Go.Proofs.Ythlncohllbmapaa
